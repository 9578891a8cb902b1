/- Part 20 of the texts behind this claim. -/
import Derived.Test.YtddbmckbankmeaaKa1
import Derived.Test.YtddbmckbankmeaaKa10
import Derived.Test.YtddbmckbankmeaaKa18
import Derived.Test.YtddbmckbankmeaaKa19
set_option linter.unusedVariables false
set_option linter.unusedSimpArgs false
namespace Go.Proofs.Ytddbmckbankmeaa
open Go.RowKit
section
variable {Q : Exit → Act → World → Prop} {o : Oper} {a : Act} {w w' : World} {d g j n k i lo : Nat} {x y : Operand} {t : TypeId} {W H : Int} {ts : List Sl} {rest ys_ : List Value} {s : Sl} {ys : List Int}
def OwnU (lo : Nat) (w : World) (v : Value) (W H : Int) (ts : List Sl) : Prop := w.ownsRow lo 24 3 v ts.length (ts.flatMap (encT W H))
theorem OwnU.to {v : Value} (h : OwnU lo w v W H ts) (hb : Below w.heap.size w w') : OwnU lo w' v W H ts := own_to h hb
theorem OwnU.lt {v : Value} (h : OwnU lo w v W H ts) : ∀ k, v.ownBlock = some k → lo ≤ k ∧ k < w.heap.size := World.ownsRow.lt h
theorem OwnU.blk {v : Value} (h : OwnU lo w v W H ts) : ∀ g, v.ownBlock = some g → ∃ t us, Blk w g t us ∧ t ≠ 3 := fun g e => by
  rcases h.2 with ⟨rfl, _⟩ | ⟨g', cap, cur, rfl, hlo, hg, _⟩
  · cases e
  injection e with e
  obtain rfl : g' = g := e
  exact ⟨_, cur.toList, hg, by decide⟩
end
section
variable {w w' : World} {lo g o : Nat} {W H : Int} {ts : List Sl} {t : TypeId} {us vs : List Value}
theorem OwnU.put {v : Value} (h : OwnU lo w v W H ts) (hlt : ∀ k, v.ownBlock = some k → k < g) : OwnU lo (putL w g o vs) v W H ts := own_put hlt h
end
end Go.Proofs.Ytddbmckbankmeaa
set_option linter.unusedVariables false
set_option linter.unusedSimpArgs false
namespace Go.Proofs.Ytddbmckbankmeaa
open Go.RowKit
section
variable {w w' : World} {lo g : Nat} {W H : Int} {ts us : List Sl} {v : Value} {t : TypeId} {cs : List Value} {A : Option Addr} {k n q size B : Nat} {xs : List Value}
theorem Reads.take (h : Reads w B size A n xs) (hk : q ≤ n) : Reads w B size A q (xs.take (q * size)) := by
  refine ⟨?_, fun hn => ?_⟩
  · rw [List.length_take, h.1]
    exact Nat.min_eq_left (Nat.mul_le_mul_right _ hk)
  obtain ⟨ad, e, hb, hc⟩ := h.2 (by omega)
  refine ⟨ad, e, hb, fun j u hu => hc j u ?_⟩
  rw [List.getElem?_take] at hu
  split at hu
  · exact hu
  cases hu
theorem OwnU.cl (h : OwnU lo w v W H ts) : ∃ A k, v = .slice A ts.length k ∧ ts.length ≤ k ∧ k ≤ 9223372036854775807 ∧ (A = none → ts.length = 0 ∧ k = 0) := by
  rcases h.2 with ⟨rfl, hn⟩ | ⟨g, cap, cur, rfl, hlo, hg, hnc, hcm, _⟩
  · exact ⟨none, 0, by rw [hn], by omega, by omega, fun _ => ⟨hn, rfl⟩⟩
  exact ⟨_, cap, rfl, hnc, hcm, fun e => by cases e⟩
theorem OwnU.row (h : OwnU lo w v W H ts) (hne : ts ≠ []) : ∃ g cap rest, v = .slice (some ⟨g, 0, none⟩) ts.length cap ∧ lo ≤ g ∧ Blk w g 24 (ts.flatMap (encT W H) ++ rest) ∧ ts.length ≤ cap ∧ cap ≤ maxLen := by
  rcases h.2 with ⟨_, hn⟩ | ⟨g, cap, cur, rfl, hlo, hg, hnc, hcm, hcs, htk⟩
  · exact absurd (List.eq_nil_of_length_eq_zero hn) hne
  refine ⟨g, cap, cur.toList.drop (ts.length * 3), rfl, hlo, ?_, hnc, hcm⟩
  rw [← htk, List.take_append_drop]
  exact hg
theorem OwnU.ld (h : OwnU lo w (.slice A n k) W H ts) {j : Nat} {s : Sl} (hj : ts[j]? = some s) : ∃ g, A = some ⟨g, 0, none⟩ ∧ w.cell? ⟨g, j * 3, none⟩ = some (.int .i64 W) ∧ w.cell? ⟨g, j * 3 + 1, none⟩ = some (.int .i64 H) ∧ w.cell? ⟨g, j * 3 + 2, none⟩ = some (.slice s.A s.xs.length s.k) := by
  have hne : ts ≠ [] := fun e => by rw [e] at hj; cases hj
  obtain ⟨g, cap, rest, e, _, hb, _⟩ := h.row hne
  injection e with e
  exact ⟨g, e, tcell_ld hb hj⟩
theorem OwnU.some_ (h : OwnU lo w (.slice A n k) W H ts) {j : Nat} {s : Sl} (hj : ts[j]? = some s) : ∃ g, A = some ⟨g, 0, none⟩ := let ⟨g, e, _⟩ := h.ld hj; ⟨g, e⟩
theorem OwnU.ne (h : OwnU lo w v W H ts) (hne : ts ≠ []) (hb : Blk w g t []) : ∀ r, v.ownBlock = some r → r ≠ g := fun r hr e => by
  obtain ⟨g', cap, rest, rfl, _, hb', _⟩ := h.row hne
  injection hr with hr
  have e2 : g' = g := hr.trans e
  subst e2
  unfold Blk at hb hb'
  rw [hb] at hb'
  injection hb' with hb'
  injection hb' with hc _ _
  have := congrArg Array.size hc
  cases ts with
  | nil => exact hne rfl
  | cons a l => simp [encT] at this
theorem OwnU.by_ {r : Option Nat} (h : OwnU lo w v W H ts) (hg : w.grownBy w' r) (hne : ∀ z, r = some z → ∀ y, v.ownBlock = some y → z ≠ y) : OwnU lo w' v W H ts := by
  refine ⟨h.1, ?_⟩
  rcases h.2 with hn | ⟨g', cap, cur, rfl, hb, hgg, rest⟩
  · exact .inl hn
  exact .inr ⟨g', cap, cur, rfl, hb, (hg.block g' (Array.getElem?_eq_some_iff.1 hgg).1 (fun e => hne g' e.symm g' rfl rfl)).trans hgg, rest⟩
theorem OwnU.lower {lo' : Nat} (h : lo ≤ lo') (ho : OwnU lo' w v W H ts) : OwnU lo w v W H ts := by
  refine ⟨ho.1, ?_⟩
  rcases ho.2 with hn | ⟨g', cap, cur, rfl, hb, hgg, rest⟩
  · exact .inl hn
  exact .inr ⟨g', cap, cur, rfl, by omega, hgg, rest⟩
end
section
variable {Q : Exit → Act → World → Prop} {o : Oper} {a : Act} {w : World} {d g n k i lo m c : Nat} {x y : Operand} {W H : Int} {us vs : List Sl} {A : Option Addr} {v0 : Value} {R : Act → World → Prop}
end
end Go.Proofs.Ytddbmckbankmeaa
set_option linter.unusedVariables false
set_option linter.unusedSimpArgs false
namespace Go.Proofs.Ytddbmckbankmeaa
open Go.RowKit
theorem rGroup_i {Wd Ht : Int} {A : Option Addr} {k : Nat} {ms : List Mv} {w : World} (hs : sizeB Wd Ht = true) (hrm : RdM w A ms) (hln : ms.length ≤ 9223372036854775807) :
    Calls Try.prog 31 #[.int .i64 Wd, .int .i64 Ht, .slice A ms.length k] w (Got w (isV (.bool (rGB Wd.toNat Ht.toNat ms))).p) := by
  obtain ⟨Wn, Hn, rfl, rfl, hs'⟩ := size_nat hs
  exact rGroup_got Wn Hn A k ms w hrm hln hs'
theorem gB_take {Wd Ht : Int} (hs : sizeB Wd Ht = true) (ms : List Mv) : gB Wd Ht (ms.take 521) = rGB Wd.toNat Ht.toNat ms := by
  obtain ⟨Wn, Hn, rfl, rfl, hs'⟩ := size_nat hs
  exact group_same hs' ms
end Go.Proofs.Ytddbmckbankmeaa
set_option linter.unusedVariables false
set_option linter.unusedSimpArgs false
namespace Go.Proofs.Ytddbmckbankmeaa
open Go.RowKit
section
variable {o : Oper} {a : Act} {x y : Operand} {e n : Int}
theorem op_cvU (ho : o.op = .convert 3 71 x) (hx : a.eval x = .int .i64 e) (w : World) : (execOp a.eval o).run Try.prog w = .ok (.value (.int .u64 (IntKind.u64.wrap e))) w := by
  generalize a.eval = ev at hx ⊢
  unfold execOp
  simp only [ho, hx]
  simp [go_sem]
theorem op_remU (hn : 0 < n) (hf : IntKind.u64.wrap (e.tmod n) = e.tmod n) (ho : o.op = .binOp .rem 71 x (.const (.int .u64 n)) 71) (hx : a.eval x = .int .u64 e) (w : World) : (execOp a.eval o).run Try.prog w = .ok (.value (.int .u64 (e.tmod n))) w := by
  have h0 : ¬ n = 0 := by omega
  have h1 : ¬ n = -1 := by omega
  have hc : a.eval (.const (.int .u64 n)) = .int .u64 n := rfl
  generalize a.eval = ev at hx hc ⊢
  unfold execOp
  simp only [ho, hx, hc]
  simp [go_sem, h0, h1, hf]
theorem op_ofU (hf : Fit e) (ho : o.op = .convert 71 3 x) (hx : a.eval x = .int .u64 e) (w : World) : (execOp a.eval o).run Try.prog w = .ok (.value (.int .i64 e)) w := by
  have hw := wrap_fit hf
  generalize a.eval = ev at hx ⊢
  unfold execOp
  simp only [ho, hx]
  simp [go_sem, hw]
end
theorem mod_u (x : Int) {n : Int} (hn : 0 < n ∧ n ≤ 10) : (0 ≤ (IntKind.u64.wrap x).tmod n ∧ (IntKind.u64.wrap x).tmod n < n) ∧ IntKind.u64.wrap ((IntKind.u64.wrap x).tmod n) = (IntKind.u64.wrap x).tmod n := by
  have h0 : 0 ≤ IntKind.u64.wrap x := by rw [IntKind.wrap_u64]; omega
  generalize IntKind.u64.wrap x = u at h0
  have h1 : u.tmod n = u % n := Int.tmod_eq_emod_of_nonneg h0
  rw [h1]
  have h2 := Int.emod_nonneg u (show n ≠ 0 by omega)
  have h3 := Int.emod_lt_of_pos u hn.1
  exact ⟨⟨h2, h3⟩, by rw [IntKind.wrap_u64]; omega⟩
theorem sum_take_le : ∀ (l : List Nat) (i : Nat), (l.take i).sum ≤ l.sum
  | [], i => by simp
  | a :: l, 0 => by simp
  | a :: l, i + 1 => by
    rw [List.take_succ_cons, List.sum_cons, List.sum_cons]
    have := sum_take_le l i
    omega
theorem same_no (W H : Int) {xs ys : List Int} (hne : xs ≠ ys) (hl1 : xs.length ≤ 1000000) (hl2 : ys.length ≤ 1000000) (v1 v2 : Value) (w : World) (h1 : (rdS W H xs).p v1 w) (h2 : (rdS W H ys).p v2 w) : Calls Try.prog 20 #[v1, v2] w (Got w (isV (.bool false)).p) := by
  have h := same_rd W H xs W H ys hl1 hl2 v1 v2 w h1 h2
  rw [decide_eq_false hne, Bool.and_false] at h
  exact h
set_option maxRecDepth 100000 in
set_option maxHeartbeats 1000000 in
theorem SAll_no (x y z Wd Ht : Int) (K N : Nat) (A : Option Addr) (k : Nat) (ms : List Mv) (w : World) (hrm : RdM w A ms) (hln : ms.length ≤ 9223372036854775807) (hWX : 1 + (IntKind.u64.wrap x).tmod 3 = Wd) (hHX : 1 + (IntKind.u64.wrap y).tmod 2 = Ht) (hKX : 1 + (IntKind.u64.wrap z).tmod 3 = ((K : Nat) : Int)) (hN : (N : Int) = Wd * Ht) (hg : gB Wd Ht (ms.take 521) = false) :
    Calls Try.prog 10 #[.int .i64 x, .int .i64 y, .int .i64 z, .slice A ms.length k] w (Got w (isV (.bool true)).p) := by
  have hx3 := (mod_u x (n := 3) (by decide)).1
  have hy2 := (mod_u y (n := 2) (by decide)).1
  have hz3 := (mod_u z (n := 3) (by decide)).1
  have hWd : 1 ≤ Wd ∧ Wd ≤ 3 := by omega
  have hHt : 1 ≤ Ht ∧ Ht ≤ 2 := by omega
  have hKb : 1 ≤ K ∧ K ≤ 3 := by omega
  have HWX := Hd.mk hWX
  have HHX := Hd.mk hHX
  have HKX := Hd.mk hKX
  have hs : sizeB Wd Ht = true := by unfold sizeB; simp; omega
  have HS := Hd.mk hs
  have HNN := Hd.mk hN.symm
  clear hx3 hy2 hz3 hWX hHX hKX
  have HRM := Hd.mk hrm
  have HG := Hd.mk hg
  clear hrm hg hs hN
  go_enter Try.func10, Try.ntmps10
  go_upto_region 1 with fail
  have HE : Hd (Env w []) := ⟨trivial⟩
  have HB : Hd (Below w.heap.size w w) := ⟨Below.refl _ _⟩
  refine wp_region_vd 15 [17, 18, 19, 20, 21, 22, 23, 24, 25, 26, 27, 28, 29, 30, 31] [0, 4, 5, 9, 10, 14] [] 84 [.int .i64 0, .int .i64 0] [isV (.int .i64 x), isV (.int .u64 (IntKind.u64.wrap x)), isV (.int .u64 ((IntKind.u64.wrap x).tmod 3)), isV (.int .i64 ((IntKind.u64.wrap x).tmod 3)), isV (.int .i64 Wd), isV (.int .i64 y), isV (.int .u64 (IntKind.u64.wrap y)), isV (.int .u64 ((IntKind.u64.wrap y).tmod 2)), isV (.int .i64 ((IntKind.u64.wrap y).tmod 2)), isV (.int .i64 Ht), isV (.int .i64 z), isV (.int .u64 (IntKind.u64.wrap z)), isV (.int .u64 ((IntKind.u64.wrap z).tmod 3)), isV (.int .i64 ((IntKind.u64.wrap z).tmod 3)), isV (.int .i64 (((K : Nat) : Int)))] (by rfl) alloc_Z ?_ ?_
  · intro qi qh qA aa wx hb hs hd
    match qi, qh, qA with
    | 0, _, _ => exact .inl ⟨rfl, op_mv rfl (hs 0 rfl)⟩
    | 1, _, _ => exact .inl ⟨rfl, op_run rfl (op_cvU rfl (hd 0 rfl) _) rfl⟩
    | 2, _, _ => exact .inl ⟨rfl, op_run rfl (op_remU (by decide) (mod_u x (n := 3) (by decide)).2 rfl (hd 1 rfl) _) rfl⟩
    | 3, _, _ => exact .inl ⟨rfl, op_run rfl (op_ofU (by have := (mod_u x (n := 3) (by decide)).1; unfold Fit; omega) rfl (hd 2 rfl) _) rfl⟩
    | 4, _, _ => exact .inl ⟨rfl, pure_b (int_eq HWX.out) (⟨_, op_add (by unfold Fit; rw [HWX.out]; omega) rfl rfl (hd 3 rfl), rfl⟩)⟩
    | 5, _, _ => exact .inl ⟨rfl, op_mv rfl (hs 1 rfl)⟩
    | 6, _, _ => exact .inl ⟨rfl, op_run rfl (op_cvU rfl (hd 5 rfl) _) rfl⟩
    | 7, _, _ => exact .inl ⟨rfl, op_run rfl (op_remU (by decide) (mod_u y (n := 2) (by decide)).2 rfl (hd 6 rfl) _) rfl⟩
    | 8, _, _ => exact .inl ⟨rfl, op_run rfl (op_ofU (by have := (mod_u y (n := 2) (by decide)).1; unfold Fit; omega) rfl (hd 7 rfl) _) rfl⟩
    | 9, _, _ => exact .inl ⟨rfl, pure_b (int_eq HHX.out) (⟨_, op_add (by unfold Fit; rw [HHX.out]; omega) rfl rfl (hd 8 rfl), rfl⟩)⟩
    | 10, _, _ => exact .inl ⟨rfl, op_mv rfl (hs 2 rfl)⟩
    | 11, _, _ => exact .inl ⟨rfl, op_run rfl (op_cvU rfl (hd 10 rfl) _) rfl⟩
    | 12, _, _ => exact .inl ⟨rfl, op_run rfl (op_remU (by decide) (mod_u z (n := 3) (by decide)).2 rfl (hd 11 rfl) _) rfl⟩
    | 13, _, _ => exact .inl ⟨rfl, op_run rfl (op_ofU (by have := (mod_u z (n := 3) (by decide)).1; unfold Fit; omega) rfl (hd 12 rfl) _) rfl⟩
    | 14, _, _ => exact .inl ⟨rfl, pure_b (int_eq HKX.out) (⟨_, op_add (by unfold Fit; rw [HKX.out]; omega) rfl rfl (hd 13 rfl), rfl⟩)⟩
    | qi + 15, h, _ => omega
  intro vs X1 hb hv hal hne
  replace HB := Hd.mk (bel_then HB.out hb)
  replace HE := Hd.mk (HE.out.to hb)
  have e21 : vs 21 = .int .i64 Wd := hv 4 (by decide) rfl
  have e26 : vs 26 = .int .i64 Ht := hv 9 (by decide) rfl
  have e31 : vs 31 = .int .i64 (((K : Nat) : Int)) := hv 14 (by decide) rfl
  simp only [PA, e21, e26, e31]
  clear hv hal hne hb e21 e26 e31
  go_upto_region 2 with fail
  refine wp_region_vd 9 [33, 34, 35, 36, 37, 38, 32, 39, 40] [0, 1, 2, 3, 6, 7, 8] [] 84 [.int .i64 0, .int .i64 0] [isV (.int .i64 Wd), isV (.int .i64 Ht), isV (.int .i64 (((K : Nat) : Int))), isV (.slice A ms.length k), isSs w.heap.size (ms.take 521), isP (isV (.slice none 0 0)) (isV (.int .i64 2)), isP (isV (.slice none 0 0)) (isV (.int .i64 2)), isV (.slice none 0 0), isV (.int .i64 2)] (by rfl) alloc_Z ?_ ?_
  · intro qi qh qA aa wx hb hs hd
    match qi, qh, qA with
    | 0, _, _ => exact .inl ⟨rfl, op_mv rfl (hs 0 rfl)⟩
    | 1, _, _ => exact .inl ⟨rfl, op_mv rfl (hs 1 rfl)⟩
    | 2, _, _ => exact .inl ⟨rfl, op_mv rfl (hs 2 rfl)⟩
    | 3, _, _ => exact .inl ⟨rfl, op_mv rfl (hs 3 rfl)⟩
    | 4, _, _ => exact .inl ⟨rfl, op_call1 rfl rfl Try.call30 (by rw [(show aa.eval (.tmp 36) = .slice A ms.length k from (hd 3 rfl))]; exact got_ss (Nat.le_trans HB.out.size hb.size) (moves_got A k ms _ (HRM.out.to (bel_then HB.out hb)) hln))⟩
    | 5, _, _ => exact .inl ⟨rfl, op_call4 rfl rfl Try.call43 (by obtain ⟨A', k', e, r, _⟩ := row_reads (hd 4 rfl); rw [show aa.eval (.tmp 33) = _ from hd 0 rfl, show aa.eval (.tmp 34) = _ from hd 1 rfl, show aa.eval (.tmp 35) = _ from hd 2 rfl, show aa.eval (.tmp 37) = _ from e]; exact List_no Wd Ht K A' k' (ms.take 521) _ r (by rw [List.length_take]; omega) HS.out (by omega) HG.out)⟩
    | 6, _, _ => exact .inl ⟨rfl, op_mv rfl (hd 5 rfl)⟩
    | 7, _, _ => exact .inl ⟨rfl, op_fst rfl (hd 6 rfl)⟩
    | 8, _, _ => exact .inl ⟨rfl, op_snd rfl (hd 6 rfl)⟩
    | qi + 9, h, _ => omega
  intro vs X2 hb hv hal hne
  replace HB := Hd.mk (bel_then HB.out hb)
  replace HE := Hd.mk (HE.out.to hb)
  have e39 : vs 39 = .slice none 0 0 := hv 7 (by decide) rfl
  have e40 : vs 40 = .int .i64 2 := hv 8 (by decide) rfl
  simp only [PA, e39, e40]
  clear hv hal hne hb e39 e40
  go_upto_region 3 with fail
  refine wp_region_vd 2 [41, 42] [0, 1] [] 84 [.int .i64 0, .int .i64 0] [isV (.int .i64 2), isV (.bool true)] (by rfl) alloc_Z ?_ ?_
  · intro qi qh qA aa wx hb hs hd
    match qi, qh, qA with
    | 0, _, _ => exact .inl ⟨rfl, op_mv rfl (hs 10 rfl)⟩
    | 1, _, _ => exact .inl ⟨rfl, pure_b (bool_eq (by decide)) (⟨_, op_neqE rfl (hd 0 rfl) rfl, rfl⟩)⟩
    | qi + 2, h, _ => omega
  intro vs X3 hb hv hal hne
  replace HB := Hd.mk (bel_then HB.out hb)
  replace HE := Hd.mk (HE.out.to hb)
  have e42 : vs 42 = .bool true := hv 1 (by decide) rfl
  simp only [PA, e42]
  clear hv hal hne hb e42
  go_upto_region 4 with fail
  refine wp_region_vd 12 [43, 44, 45, 46, 47, 48, 49, 50, 51, 52, 53, 54] [0, 1, 2, 3, 4, 5, 7, 8, 9, 11] [] 84 [.int .i64 0, .int .i64 0] [isV (.int .i64 2), isV (.bool true), isV (.bool true), isV (.int .i64 Wd), isV (.int .i64 Ht), isV (.slice A ms.length k), isV (.bool false), isV (.bool true), isV (.bool true), isV (.bool true), isV (.bool true), isV (.bool true)] (by rfl) alloc_Z ?_ ?_
  · intro qi qh qA aa wx hb hs hd
    match qi, qh, qA with
    | 0, _, _ => exact .inl ⟨rfl, op_mv rfl (hs 10 rfl)⟩
    | 1, _, _ => exact .inl ⟨rfl, pure_b (bool_eq (by decide)) (⟨_, op_eqlE rfl (hd 0 rfl) rfl, rfl⟩)⟩
    | 2, _, _ => exact .inl ⟨rfl, op_mv rfl (hd 1 rfl)⟩
    | 3, _, _ => exact .inl ⟨⟨rfl, .inl (hd 2 rfl)⟩, op_mv rfl (hs 0 rfl)⟩
    | 4, _, _ => exact .inl ⟨⟨rfl, .inl (hd 2 rfl)⟩, op_mv rfl (hs 1 rfl)⟩
    | 5, _, _ => exact .inl ⟨⟨rfl, .inl (hd 2 rfl)⟩, op_mv rfl (hs 3 rfl)⟩
    | 6, _, _ => exact .inl ⟨⟨rfl, .inl (hd 2 rfl)⟩, op_call3 rfl rfl Try.call31 (by rw [show aa.eval (.tmp 46) = .int .i64 Wd from (hd 3 rfl), show aa.eval (.tmp 47) = .int .i64 Ht from (hd 4 rfl), show aa.eval (.tmp 48) = .slice A ms.length k from (hd 5 rfl)]; have h := rGroup_i (k := k) HS.out (HRM.out.to (bel_then HB.out hb)) hln; rw [← gB_take HS.out, HG.out] at h; exact h)⟩
    | 7, _, _ => exact .inl ⟨⟨rfl, .inl (hd 2 rfl)⟩, ⟨_, op_not rfl (hd 6 rfl), rfl⟩⟩
    | 8, _, _ => exact .inl ⟨rfl, ⟨_, op_pickT rfl (hd 2 rfl) (hd 7 rfl), rfl⟩⟩
    | 9, _, _ => exact .inl ⟨rfl, op_mv rfl (hd 8 rfl)⟩
    | 10, _, _ => exact .inl ⟨⟨rfl, .inl (hd 9 rfl)⟩, op_call0 rfl rfl Try.call18 (awake_got _)⟩
    | 11, _, _ => exact .inl ⟨rfl, ⟨_, op_pickT rfl (hd 9 rfl) (hd 10 rfl), rfl⟩⟩
    | qi + 12, h, _ => omega
  intro vs X4 hb hv hal hne
  replace HB := Hd.mk (bel_then HB.out hb)
  replace HE := Hd.mk (HE.out.to hb)
  have e54 : vs 54 = .bool true := hv 11 (by decide) rfl
  simp only [PA, e54]
  clear hv hal hne hb e54
  go_wp2_with fail
  go_ret
  exact ⟨_, rfl, HB.out, rfl⟩
set_option maxRecDepth 100000 in
set_option maxHeartbeats 1000000 in
theorem SAll_yes (x y z Wd Ht : Int) (K N : Nat) (A : Option Addr) (k : Nat) (ms : List Mv) (w : World) (hrm : RdM w A ms) (hln : ms.length ≤ 9223372036854775807) (hWX : 1 + (IntKind.u64.wrap x).tmod 3 = Wd) (hHX : 1 + (IntKind.u64.wrap y).tmod 2 = Ht) (hKX : 1 + (IntKind.u64.wrap z).tmod 3 = ((K : Nat) : Int)) (hN : (N : Int) = Wd * Ht) (hg : gB Wd Ht ms = true) :
    Calls Try.prog 10 #[.int .i64 x, .int .i64 y, .int .i64 z, .slice A ms.length k] w (Got w (isV (.bool true)).p) := by
  have hx3 := (mod_u x (n := 3) (by decide)).1
  have hy2 := (mod_u y (n := 2) (by decide)).1
  have hz3 := (mod_u z (n := 3) (by decide)).1
  have hWd : 1 ≤ Wd ∧ Wd ≤ 3 := by omega
  have hHt : 1 ≤ Ht ∧ Ht ≤ 2 := by omega
  have hKb : 1 ≤ K ∧ K ≤ 3 := by omega
  have HWX := Hd.mk hWX
  have HHX := Hd.mk hHX
  have HKX := Hd.mk hKX
  have hs : sizeB Wd Ht = true := by unfold sizeB; simp; omega
  have HS := Hd.mk hs
  have HNN := Hd.mk hN.symm
  clear hx3 hy2 hz3 hWX hHX hKX
  have hn6 : N ≤ 6 := by have : Wd * Ht ≤ 3 * 2 := Int.mul_le_mul hWd.2 hHt.2 (by omega) (by omega); omega
  have hM : K ^ N ≤ 729 := Nat.le_trans (Nat.pow_le_pow_left hKb.2 N) (Nat.le_trans (Nat.pow_le_pow_right (by omega) hn6) (by decide))
  have HMC : Hd (K ^ N ≤ 4096) := ⟨by omega⟩
  have h512 := gp_few hs hg
  have HGP := Hd.mk (gp_of hs hg)
  have HNZ := Hd.mk (group_nz hg hs)
  have HND := Hd.mk (listL_nodup Wd Ht ms N (K := K) (by omega))
  obtain ⟨pw, hpw⟩ : ∃ pw : Nat → Nat, pw = fun i => K ^ i := ⟨_, rfl⟩
  have HP0 : Hd (pw 0 = 1) := ⟨by rw [hpw]; rfl⟩
  have HPS : Hd (∀ i, pw (i + 1) = pw i * K) := ⟨fun i => by rw [hpw]; exact Nat.pow_succ ..⟩
  have HPL : Hd (∀ i, i ≤ N → pw i ≤ 4096) := ⟨fun i hi => by rw [hpw]; exact Nat.le_trans (Nat.pow_le_pow_right (by omega) hi) HMC.out⟩
  obtain ⟨M, hMM⟩ : ∃ M, M = K ^ N := ⟨_, rfl⟩
  have HPM : Hd (pw N = M) := ⟨by rw [hpw, hMM]⟩
  have hM2 : M ≤ 4096 := by rw [hMM]; exact HMC.out
  have hsum := list_sum HGP.out hs hN (K := K) (by omega) (by omega)
  have HLB : Hd ((listL Wd Ht ms K N).length ≤ 4096) := ⟨by
    have h1 : (listL Wd Ht ms K N).length ≤ (allC K N).length := List.length_filter_le _ _
    have h2 : (allC K N).length = K ^ N := by unfold allC; rw [List.length_map, List.length_range]
    have h3 := HMC.out
    omega⟩
  obtain ⟨sm, hsm⟩ : ∃ sm : Nat → Nat, sm = fun i => (((listL Wd Ht ms K N).take i).map fun z => (orbL Wd Ht z ms).length).sum := ⟨_, rfl⟩
  have HM0 : Hd (sm 0 = 0) := ⟨by rw [hsm]; rfl⟩
  have HMS : Hd (∀ i z, (listL Wd Ht ms K N)[i]? = some z → sm (i + 1) = sm i + (orbL Wd Ht z ms).length) := ⟨fun i z hz => by rw [hsm]; simp only [List.take_add_one, hz, Option.toList_some, List.map_append, List.sum_append, List.map_cons, List.map_nil, List.sum_cons, List.sum_nil, Nat.add_zero]⟩
  have HMB : Hd (∀ i, sm i ≤ 4096) := ⟨fun i => by rw [hsm]; show (((listL Wd Ht ms K N).take i).map fun z => (orbL Wd Ht z ms).length).sum ≤ 4096; rw [List.map_take]; have h1 := sum_take_le ((listL Wd Ht ms K N).map fun z => (orbL Wd Ht z ms).length) i; rw [hsum] at h1; have h3 := HMC.out; omega⟩
  have HMT : Hd (sm (listL Wd Ht ms K N).length = M) := ⟨by rw [hsm, hMM]; show (((listL Wd Ht ms K N).take (listL Wd Ht ms K N).length).map fun z => (orbL Wd Ht z ms).length).sum = _; rw [List.take_length]; exact hsum⟩
  have HRM := Hd.mk hrm
  have HG := Hd.mk hg
  clear hrm hg hs hN hM hMM hpw hsum hsm
  go_enter Try.func10, Try.ntmps10
  go_upto_region 1 with fail
  have HE : Hd (Env w []) := ⟨trivial⟩
  have HB : Hd (Below w.heap.size w w) := ⟨Below.refl _ _⟩
  refine wp_region_vd 15 [17, 18, 19, 20, 21, 22, 23, 24, 25, 26, 27, 28, 29, 30, 31] [0, 4, 5, 9, 10, 14] [] 84 [.int .i64 0, .int .i64 0] [isV (.int .i64 x), isV (.int .u64 (IntKind.u64.wrap x)), isV (.int .u64 ((IntKind.u64.wrap x).tmod 3)), isV (.int .i64 ((IntKind.u64.wrap x).tmod 3)), isV (.int .i64 Wd), isV (.int .i64 y), isV (.int .u64 (IntKind.u64.wrap y)), isV (.int .u64 ((IntKind.u64.wrap y).tmod 2)), isV (.int .i64 ((IntKind.u64.wrap y).tmod 2)), isV (.int .i64 Ht), isV (.int .i64 z), isV (.int .u64 (IntKind.u64.wrap z)), isV (.int .u64 ((IntKind.u64.wrap z).tmod 3)), isV (.int .i64 ((IntKind.u64.wrap z).tmod 3)), isV (.int .i64 (((K : Nat) : Int)))] (by rfl) alloc_Z ?_ ?_
  · intro qi qh qA aa wx hb hs hd
    match qi, qh, qA with
    | 0, _, _ => exact .inl ⟨rfl, op_mv rfl (hs 0 rfl)⟩
    | 1, _, _ => exact .inl ⟨rfl, op_run rfl (op_cvU rfl (hd 0 rfl) _) rfl⟩
    | 2, _, _ => exact .inl ⟨rfl, op_run rfl (op_remU (by decide) (mod_u x (n := 3) (by decide)).2 rfl (hd 1 rfl) _) rfl⟩
    | 3, _, _ => exact .inl ⟨rfl, op_run rfl (op_ofU (by have := (mod_u x (n := 3) (by decide)).1; unfold Fit; omega) rfl (hd 2 rfl) _) rfl⟩
    | 4, _, _ => exact .inl ⟨rfl, pure_b (int_eq HWX.out) (⟨_, op_add (by unfold Fit; rw [HWX.out]; omega) rfl rfl (hd 3 rfl), rfl⟩)⟩
    | 5, _, _ => exact .inl ⟨rfl, op_mv rfl (hs 1 rfl)⟩
    | 6, _, _ => exact .inl ⟨rfl, op_run rfl (op_cvU rfl (hd 5 rfl) _) rfl⟩
    | 7, _, _ => exact .inl ⟨rfl, op_run rfl (op_remU (by decide) (mod_u y (n := 2) (by decide)).2 rfl (hd 6 rfl) _) rfl⟩
    | 8, _, _ => exact .inl ⟨rfl, op_run rfl (op_ofU (by have := (mod_u y (n := 2) (by decide)).1; unfold Fit; omega) rfl (hd 7 rfl) _) rfl⟩
    | 9, _, _ => exact .inl ⟨rfl, pure_b (int_eq HHX.out) (⟨_, op_add (by unfold Fit; rw [HHX.out]; omega) rfl rfl (hd 8 rfl), rfl⟩)⟩
    | 10, _, _ => exact .inl ⟨rfl, op_mv rfl (hs 2 rfl)⟩
    | 11, _, _ => exact .inl ⟨rfl, op_run rfl (op_cvU rfl (hd 10 rfl) _) rfl⟩
    | 12, _, _ => exact .inl ⟨rfl, op_run rfl (op_remU (by decide) (mod_u z (n := 3) (by decide)).2 rfl (hd 11 rfl) _) rfl⟩
    | 13, _, _ => exact .inl ⟨rfl, op_run rfl (op_ofU (by have := (mod_u z (n := 3) (by decide)).1; unfold Fit; omega) rfl (hd 12 rfl) _) rfl⟩
    | 14, _, _ => exact .inl ⟨rfl, pure_b (int_eq HKX.out) (⟨_, op_add (by unfold Fit; rw [HKX.out]; omega) rfl rfl (hd 13 rfl), rfl⟩)⟩
    | qi + 15, h, _ => omega
  intro vs X1 hb hv hal hne
  replace HB := Hd.mk (bel_then HB.out hb)
  replace HE := Hd.mk (HE.out.to hb)
  have e21 : vs 21 = .int .i64 Wd := hv 4 (by decide) rfl
  have e26 : vs 26 = .int .i64 Ht := hv 9 (by decide) rfl
  have e31 : vs 31 = .int .i64 (((K : Nat) : Int)) := hv 14 (by decide) rfl
  simp only [PA, e21, e26, e31]
  clear hv hal hne hb e21 e26 e31
  go_upto_region 2 with fail
  refine wp_region_vd 9 [33, 34, 35, 36, 37, 38, 32, 39, 40] [0, 1, 2, 3, 6, 7, 8] [] 84 [.int .i64 0, .int .i64 0] [isV (.int .i64 Wd), isV (.int .i64 Ht), isV (.int .i64 (((K : Nat) : Int))), isV (.slice A ms.length k), isSs w.heap.size (ms), isP (isTs X1.heap.size Wd Ht (listL Wd Ht ms K N)) (isV (.int .i64 0)), isP (isTs X1.heap.size Wd Ht (listL Wd Ht ms K N)) (isV (.int .i64 0)), isTs X1.heap.size Wd Ht (listL Wd Ht ms K N), isV (.int .i64 0)] (by rfl) alloc_Z ?_ ?_
  · intro qi qh qA aa wx hb hs hd
    match qi, qh, qA with
    | 0, _, _ => exact .inl ⟨rfl, op_mv rfl (hs 0 rfl)⟩
    | 1, _, _ => exact .inl ⟨rfl, op_mv rfl (hs 1 rfl)⟩
    | 2, _, _ => exact .inl ⟨rfl, op_mv rfl (hs 2 rfl)⟩
    | 3, _, _ => exact .inl ⟨rfl, op_mv rfl (hs 3 rfl)⟩
    | 4, _, _ => exact .inl ⟨rfl, op_call1 rfl rfl Try.call30 (by rw [(show aa.eval (.tmp 36) = .slice A ms.length k from (hd 3 rfl))]; exact got_ss (Nat.le_trans HB.out.size hb.size) (moves_all (HRM.out.to (bel_then HB.out hb)) (by omega)))⟩
    | 5, _, _ => exact .inl ⟨rfl, op_call4 rfl rfl Try.call43 (by obtain ⟨A', k', e, r, _⟩ := row_reads (hd 4 rfl); rw [show aa.eval (.tmp 33) = _ from hd 0 rfl, show aa.eval (.tmp 34) = _ from hd 1 rfl, show aa.eval (.tmp 35) = _ from hd 2 rfl, show aa.eval (.tmp 37) = _ from e]; exact got_ts hb.size (List_ok Wd Ht K N A' k' ms _ r (by omega) HS.out (by omega) HG.out HNN.out.symm HMC.out))⟩
    | 6, _, _ => exact .inl ⟨rfl, op_mv rfl (hd 5 rfl)⟩
    | 7, _, _ => exact .inl ⟨rfl, op_fst rfl (hd 6 rfl)⟩
    | 8, _, _ => exact .inl ⟨rfl, op_snd rfl (hd 6 rfl)⟩
    | qi + 9, h, _ => omega
  intro vs X2 hb hv hal hne
  have HL0 := Hd.mk (HE.out.lt)
  have HBW := HB
  replace HB := Hd.mk (bel_then HB.out hb)
  replace HE := Hd.mk (HE.out.to hb)
  obtain ⟨gL, kL, restL, tsL, e39, hmL, l39, b39, okL⟩ : (isTs X1.heap.size Wd Ht (listL Wd Ht ms K N)).p (vs 39) X2 := hv 7 (by decide) rfl
  replace HE : Hd (Env X2 [⟨gL, 27, tsL.flatMap (encT Wd Ht) ++ restL⟩]) := ⟨Env.addne (e := ⟨gL, 27, tsL.flatMap (encT Wd Ht) ++ restL⟩) HE.out b39 (fun e' he => Nat.ne_of_lt (Nat.lt_of_lt_of_le (HL0.out e' he) l39))⟩
  have HML := Hd.mk hmL
  have OKL := Hd.mk okL
  have G39 : Hd (w.heap.size ≤ gL) := ⟨Nat.le_trans HBW.out.size l39⟩
  clear hmL okL l39 b39
  have e40 : vs 40 = .int .i64 0 := hv 8 (by decide) rfl
  simp only [PA, e39, e40]
  clear hv hal hne hb HL0 HBW e39 e40
  have hll : tsL.length = (listL Wd Ht ms K N).length := by rw [← HML.out, List.length_map]
  have HME : Hd (sm tsL.length = M) := ⟨by rw [hll]; exact HMT.out⟩
  have hlb : tsL.length ≤ 4096 := by rw [hll]; exact HLB.out
  clear hll
  go_upto_region 3 with fail
  refine wp_region_vd 2 [41, 42] [0, 1] [] 84 [.int .i64 0, .int .i64 0] [isV (.int .i64 0), isV (.bool false)] (by rfl) alloc_Z ?_ ?_
  · intro qi qh qA aa wx hb hs hd
    match qi, qh, qA with
    | 0, _, _ => exact .inl ⟨rfl, op_mv rfl (hs 10 rfl)⟩
    | 1, _, _ => exact .inl ⟨rfl, pure_b (bool_eq (by decide)) (⟨_, op_neqE rfl (hd 0 rfl) rfl, rfl⟩)⟩
    | qi + 2, h, _ => omega
  intro vs X3 hb hv hal hne
  replace HB := Hd.mk (bel_then HB.out hb)
  replace HE := Hd.mk (HE.out.to hb)
  replace OKL := Hd.mk (OKL.out.to hb)
  have e42 : vs 42 = .bool false := hv 1 (by decide) rfl
  simp only [PA, e42]
  clear hv hal hne hb e42
  go_upto_region 5 with fail
  refine wp_region_vd 0 [] [] [] 84 [.int .i64 0, .int .i64 0] [] (by rfl) alloc_Z ?_ ?_
  · intro qi qh qA aa wx hb hs hd
    match qi, qh, qA with
    | qi + 0, h, _ => omega
  intro vs X4 hb hv hal hne
  replace HB := Hd.mk (bel_then HB.out hb)
  replace HE := Hd.mk (HE.out.to hb)
  replace OKL := Hd.mk (OKL.out.to hb)
  simp only [PA]
  clear hv hal hne hb
  go_upto_region 6 with fail
  refine wp_region_vd 4 [55, 56, 57, 58] [0, 1, 2, 3] [] 84 [.int .i64 0, .int .i64 0] [isV (.int .i64 Wd), isV (.int .i64 Ht), isV (.int .i64 (((N : Nat) : Int))), isV (.int .i64 0)] (by rfl) alloc_Z ?_ ?_
  · intro qi qh qA aa wx hb hs hd
    match qi, qh, qA with
    | 0, _, _ => exact .inl ⟨rfl, op_mv rfl (hs 0 rfl)⟩
    | 1, _, _ => exact .inl ⟨rfl, op_mv rfl (hs 1 rfl)⟩
    | 2, _, _ => exact .inl ⟨rfl, pure_b (int_eq HNN.out) (⟨_, op_mul (by unfold Fit; rw [HNN.out]; omega) rfl (hd 0 rfl) (hd 1 rfl), rfl⟩)⟩
    | 3, _, _ => exact .inl ⟨rfl, op_mv rfl rfl⟩
    | qi + 4, h, _ => omega
  intro vs X5 hb hv hal hne
  replace HB := Hd.mk (bel_then HB.out hb)
  replace HE := Hd.mk (HE.out.to hb)
  replace OKL := Hd.mk (OKL.out.to hb)
  have e57 : vs 57 = .int .i64 (((N : Nat) : Int)) := hv 2 (by decide) rfl
  have e58 : vs 58 = .int .i64 0 := hv 3 (by decide) rfl
  simp only [PA, e57, e58]
  clear hv hal hne hb e57 e58
  go_wp2_with fail
  go_loopw [12, 58] (fun s12 s58 wr => ∃ i : Nat, i ≤ N ∧ s58 = .int .i64 i ∧ s12 = .int .i64 (pw i : Nat) ∧ Env wr [⟨gL, 27, tsL.flatMap (encT Wd Ht) ++ restL⟩] ∧ OkT wr tsL ∧ Below w.heap.size w wr) (fun _ s58 _ => N - (intOf s58).toNat)
  case atStart => exact ⟨0, Nat.zero_le _, rfl, by rw [HP0.out]; rfl, HE.out, OKL.out, HB.out⟩
  case round =>
    obtain ⟨i, hi, rfl, rfl, he, hl, hb⟩ := hrel
    clear HB HE OKL
    have HB := Hd.mk hb
    have OKL := Hd.mk hl
    have HE : Hd (Env wr [⟨gL, 27, tsL.flatMap (encT Wd Ht) ++ restL⟩]) := ⟨he⟩
    clear he hb hl
    by_cases hj : i < N
    · have hp1 := HPL.out (i + 1) hj
      have hp2 := HPS.out i
      have HPQ : Hd (((pw i : Nat) : Int) * ((K : Nat) : Int) = ((pw (i + 1) : Nat) : Int)) := ⟨by rw [hp2]; exact (Int.natCast_mul _ _).symm⟩
      clear hp2
      go_upto_region 8 with fail
      refine wp_region_vd 3 [60, 61, 62] [0, 1, 2] [] 84 [.int .i64 0, .int .i64 0] [isV (.int .i64 (((pw i : Nat) : Int))), isV (.int .i64 (((K : Nat) : Int))), isV (.int .i64 (((pw (i + 1) : Nat) : Int)))] (by rfl) alloc_Z ?_ ?_
      · intro qi qh qA aa wx hb hs hd
        match qi, qh, qA with
        | 0, _, _ => exact .inl ⟨rfl, op_mv rfl (hs 12 rfl)⟩
        | 1, _, _ => exact .inl ⟨rfl, op_mv rfl (hs 2 rfl)⟩
        | 2, _, _ => exact .inl ⟨rfl, pure_b (int_eq HPQ.out) (⟨_, op_mul (by unfold Fit; rw [HPQ.out]; omega) rfl (hd 0 rfl) (hd 1 rfl), rfl⟩)⟩
        | qi + 3, h, _ => omega
      intro vs X1 hb hv hal hne
      replace HB := Hd.mk (bel_then HB.out hb)
      replace HE := Hd.mk (HE.out.to hb)
      replace OKL := Hd.mk (OKL.out.to hb)
      have e62 : vs 62 = .int .i64 (((pw (i + 1) : Nat) : Int)) := hv 2 (by decide) rfl
      simp only [PA, e62]
      clear hv hal hne hb e62
      go_wp2_with fail
      go_roundw
      case rel => exact ⟨i + 1, by omega, by go_num, rfl, HE.out, OKL.out, HB.out⟩
      case measure => simp [intOf]; omega
    have e1 : i = N := by omega
    have HPN : Hd (pw i = M) := ⟨by rw [e1]; exact HPM.out⟩
    have epn := HPN.out
    clear e1
    rw [epn]
    clear epn
    go_upto_region 10 with fail
    refine wp_region_vd 3 [64, 65, 66] [0, 2] [] 84 [.int .i64 0, .int .i64 0] [isV (.slice (some ⟨gL, 0, none⟩) tsL.length kL), isV (.int .i64 (((tsL.length : Nat) : Int))), isV (.int .i64 0)] (by rfl) alloc_Z ?_ ?_
    · intro qi qh qA aa wx hb hs hd
      match qi, qh, qA with
      | 0, _, _ => exact .inl ⟨rfl, op_mv rfl (hs 9 rfl)⟩
      | 1, _, _ => exact .inl ⟨rfl, op_lenT rfl rfl (hd 0 rfl)⟩
      | 2, _, _ => exact .inl ⟨rfl, op_mv rfl rfl⟩
      | qi + 3, h, _ => omega
    intro vs X1 hb hv hal hne
    replace HB := Hd.mk (bel_then HB.out hb)
    replace HE := Hd.mk (HE.out.to hb)
    replace OKL := Hd.mk (OKL.out.to hb)
    have e64 : vs 64 = .slice (some ⟨gL, 0, none⟩) tsL.length kL := hv 0 (by decide) rfl
    have e65 : vs 65 = .int .i64 (((tsL.length : Nat) : Int)) := hv 1 (by decide) rfl
    have e66 : vs 66 = .int .i64 0 := hv 2 (by decide) rfl
    simp only [PA, e64, e65, e66]
    clear hv hal hne hb e64 e65 e66
    go_wp2_with fail
    go_loopw [11, 66] (fun s11 s66 wr => ∃ i : Nat, i ≤ tsL.length ∧ s66 = .int .i64 i ∧ s11 = .int .i64 (sm i : Nat) ∧ Env wr [⟨gL, 27, tsL.flatMap (encT Wd Ht) ++ restL⟩] ∧ OkT wr tsL ∧ Below w.heap.size w wr) (fun _ s66 _ => tsL.length - (intOf s66).toNat)
    case atStart => exact ⟨0, Nat.zero_le _, rfl, by rw [HM0.out]; rfl, HE.out, OKL.out, HB.out⟩
    case round =>
      obtain ⟨i, hi, rfl, rfl, he, hl, hb⟩ := hrel
      clear HB HE OKL
      have HB := Hd.mk hb
      have OKL := Hd.mk hl
      have HE : Hd (Env wr [⟨gL, 27, tsL.flatMap (encT Wd Ht) ++ restL⟩]) := ⟨he⟩
      clear he hb hl
      by_cases hj : i < tsL.length
      · obtain ⟨sX, hsX⟩ : ∃ s, tsL[i]? = some s := ⟨_, List.getElem?_eq_getElem hj⟩
        have HSX := Hd.mk hsX
        have hzx : (listL Wd Ht ms K N)[i]? = some sX.xs := by rw [← HML.out, List.getElem?_map, hsX]; rfl
        have hxm := (mem_listL (by omega)).1 (List.mem_of_getElem? hzx)
        have HVX := Hd.mk (col_valid HS.out HNN.out.symm (by omega) hxm.1)
        have HEX := Hd.mk ((rep_iff HGP.out HVX.out).1 hxm.2)
        have HXL : Hd (sX.xs.length ≤ 1000000) := ⟨(OKL.out sX (List.mem_of_getElem? hsX)).2⟩
        have hsm := HMS.out i sX.xs hzx
        have hsb := HMB.out (i + 1)
        have HZX := Hd.mk hzx
        clear hsX hzx hxm
        go_upto_region 12 with fail
        refine wp_region_vd 4 [68, 69, 70, 14] [0] [3] 27 [.int .i64 0, .int .i64 0, .slice none 0 0] [isV (.int .i64 (((i : Nat) : Int))), isV (.pointer (some ⟨gL, 0 + i * 3, none⟩)), isV (.agg #[.int .i64 Wd, .int .i64 Ht, .slice sX.A sX.xs.length sX.k]), SP.any] (by rfl) alloc_T ?_ ?_
        · intro qi qh qA aa wx hb hs hd
          match qi, qh, qA with
          | 0, _, _ => exact .inl ⟨rfl, op_mv rfl (hs 66 rfl)⟩
          | 1, _, _ => exact .inl ⟨rfl, op_run rfl (op_idxT hj rfl (hs 64 rfl) (hs 66 rfl) _) rfl⟩
          | 2, _, _ => exact .inl ⟨rfl, op_ldvT rfl rfl (hd 1 rfl) (by rw [Nat.zero_add]; exact tcell_ld ((HE.out.to hb).get 0 rfl) HSX.out)⟩
          | 3, _, h => cases h
          | qi + 4, h, _ => omega
        intro vs X1 hb hv hal hne
        have HL0 := Hd.mk (HE.out.lt)
        have HBW := HB
        replace HB := Hd.mk (bel_then HB.out hb)
        replace HE := Hd.mk (HE.out.to hb)
        replace OKL := Hd.mk (OKL.out.to hb)
        have e68 : vs 68 = .int .i64 (((i : Nat) : Int)) := hv 0 (by decide) rfl
        have e70 : vs 70 = .agg #[.int .i64 Wd, .int .i64 Ht, .slice sX.A sX.xs.length sX.k] := hv 2 (by decide) rfl
        obtain ⟨g14, e14, l14, b14⟩ : ∃ g, vs 14 = .pointer (some ⟨g, 0, none⟩) ∧ _ := hal 3 rfl
        replace HE : Hd (Env X1 [⟨gL, 27, tsL.flatMap (encT Wd Ht) ++ restL⟩, ⟨g14, 27, [.int .i64 0, .int .i64 0, .slice none 0 0]⟩]) := ⟨Env.addne (e := ⟨g14, 27, [.int .i64 0, .int .i64 0, .slice none 0 0]⟩) HE.out b14 (fun e' he => Nat.ne_of_lt (Nat.lt_of_lt_of_le (HL0.out e' he) l14))⟩
        have G14 : Hd (w.heap.size ≤ g14) := ⟨Nat.le_trans HBW.out.size l14⟩
        simp only [PA, e68, e70, e14]
        clear hv hal hne hb HL0 HBW e68 e70 e14 l14 b14
        refine wpList_run rfl (op_asgE (v := .int .i64 (((i : Nat) : Int))) rfl rfl _) ?_
        simp only [Act.put, List.setIfInBounds_toArray, List.set_cons_succ, List.set_cons_zero]
        refine wpList_st rfl rfl rfl rfl rfl (sto_T (HE.out.get 1 rfl)) ?_
        have HE' : Env (putL X1 g14 0 [.int .i64 Wd, .int .i64 Ht, .slice sX.A sX.xs.length sX.k]) [⟨gL, 27, tsL.flatMap (encT Wd Ht) ++ restL⟩, ⟨g14, 27, [.int .i64 Wd, .int .i64 Ht, .slice sX.A sX.xs.length sX.k]⟩] := HE.out.putF 1 rfl rfl
        have HB' := putL_below (show w.heap.size ≤ g14 from G14.out) [.int .i64 Wd, .int .i64 Ht, .slice sX.A sX.xs.length sX.k] _ 0 HB.out
        replace OKL := Hd.mk (OKL.out.putB (vs := [.int .i64 Wd, .int .i64 Ht, .slice sX.A sX.xs.length sX.k]) (o := 0) (HE.out.get 1 rfl))
        generalize putL X1 g14 0 [.int .i64 Wd, .int .i64 Ht, .slice sX.A sX.xs.length sX.k] = X2 at *
        replace HE := Hd.mk HE'
        replace HB := Hd.mk HB'
        clear HE' HB'
        go_upto_region 13 with fail
        refine wp_region_vs 9 [72, 73, 74, 75, 71, 76, 77, 15, 16] [0, 4, 5, 6, 7, 8] [] 84 [.int .i64 0, .int .i64 0] [isV (.slice A ms.length k), isSs w.heap.size (ms), isV (.agg #[.int .i64 Wd, .int .i64 Ht, .slice sX.A sX.xs.length sX.k]), isP (isTs X2.heap.size Wd Ht (orbL Wd Ht sX.xs ms)) (isV (.int .i64 0)), isP (isTs X2.heap.size Wd Ht (orbL Wd Ht sX.xs ms)) (isV (.int .i64 0)), isTs X2.heap.size Wd Ht (orbL Wd Ht sX.xs ms), isV (.int .i64 0), isTs X2.heap.size Wd Ht (orbL Wd Ht sX.xs ms), isV (.int .i64 0)] (by kernel_rfl) (by kernel_rfl) (by kernel_rfl) (by rfl) alloc_Z (fun d v c a w h => by cases d <;> exact h) ?_ ?_
        · intro qi qh qA aa wx hb hs hd
          match qi, qh, qA with
          | 0, _, _ => exact op_mv rfl (hs 3 rfl)
          | 1, _, _ => exact op_call1 rfl rfl Try.call30 (by rw [(show aa.eval (.tmp 72) = .slice A ms.length k from (hd 0 rfl))]; exact got_ss (Nat.le_trans HB.out.size hb.size) (moves_all (HRM.out.to (bel_then HB.out hb)) (by omega)))
          | 2, _, _ => exact op_ldT rfl rfl (hs 14 rfl) ((HE.out.to hb).get 1 rfl)
          | 3, _, _ => exact op_call2 rfl rfl Try.call44 (by obtain ⟨A', k', e, r, _⟩ := row_reads (hd 1 rfl); rw [show aa.eval (.tmp 73) = _ from e, show aa.eval (.tmp 74) = _ from hd 2 rfl]; exact got_ts hb.size (Orbit_ok Wd Ht A' k' ms sX.A sX.k sX.xs _ r (by omega) ((OKL.out sX (List.mem_of_getElem? HSX.out)).1.1.to hb) HVX.out HG.out))
          | 4, _, _ => exact op_mv rfl (hd 3 rfl)
          | 5, _, _ => exact op_fst rfl (hd 4 rfl)
          | 6, _, _ => exact op_snd rfl (hd 4 rfl)
          | 7, _, _ => exact op_asg rfl (hd 5 rfl)
          | 8, _, _ => exact op_asg rfl (hd 6 rfl)
          | qi + 9, h, _ => omega
        intro vs X3 hb hv hal hne
        have HL0 := Hd.mk (HE.out.lt)
        have HBW := HB
        replace HB := Hd.mk (bel_then HB.out hb)
        replace HE := Hd.mk (HE.out.to hb)
        replace OKL := Hd.mk (OKL.out.to hb)
        obtain ⟨gO, kO, restO, tsO, e15, hmO, l15, b15, okO⟩ : (isTs X2.heap.size Wd Ht (orbL Wd Ht sX.xs ms)).p (vs 15) X3 := hv 7 (by decide) rfl
        replace HE : Hd (Env X3 [⟨gL, 27, tsL.flatMap (encT Wd Ht) ++ restL⟩, ⟨g14, 27, [.int .i64 Wd, .int .i64 Ht, .slice sX.A sX.xs.length sX.k]⟩, ⟨gO, 27, tsO.flatMap (encT Wd Ht) ++ restO⟩]) := ⟨Env.addne (e := ⟨gO, 27, tsO.flatMap (encT Wd Ht) ++ restO⟩) HE.out b15 (fun e' he => Nat.ne_of_lt (Nat.lt_of_lt_of_le (HL0.out e' he) l15))⟩
        have HMO := Hd.mk hmO
        have OKO := Hd.mk okO
        have G15 : Hd (w.heap.size ≤ gO) := ⟨Nat.le_trans HBW.out.size l15⟩
        clear hmO okO l15 b15
        have e16 : vs 16 = .int .i64 0 := hv 8 (by decide) rfl
        simp only [PA, e15, e16]
        clear hv hal hne hb HL0 HBW e15 e16
        have hlo : tsO.length = (orbL Wd Ht sX.xs ms).length := by rw [← HMO.out, List.length_map]
        have HSN : Hd (((sm i : Nat) : Int) + ((tsO.length : Nat) : Int) = ((sm (i + 1) : Nat) : Int)) := ⟨by rw [hlo, hsm]; exact (Int.natCast_add _ _).symm⟩
        clear hlo hsm
        obtain ⟨sQ, hsQ⟩ := ts_some HMO.out HNZ.out
        have hq0 : 0 < tsO.length := (List.getElem?_eq_some_iff.1 hsQ).1
        have HSQ := Hd.mk hsQ
        have HQX := Hd.mk ((ts_head HMO.out hsQ).symm.trans HEX.out)
        clear hsQ
        by_cases h0 : i = 0
        · skip
          go_upto_region 14 with fail
          refine wp_region_vg 32 [78, 79, 80, 81, 82, 83, 84, 85, 86, 87, 88, 89, 90, 91, 92, 93, 94, 95, 96, 97, 98, 99, 100, 101, 102, 103, 104, 105, 106, 107, 108, 109] [0, 1, 2, 3, 5, 6, 7, 8, 15, 16, 17, 18, 19, 20, 30, 31] [] 84 [.int .i64 0, .int .i64 0] [isV (.int .i64 0), isV (.bool false), isV (.bool false), isV (.slice (some ⟨gO, 0, none⟩) tsO.length kO), isV (.int .i64 (((tsO.length : Nat) : Int))), isV (.bool false), isV (.bool false), isV (.bool false), isV (.slice (some ⟨gO, 0, none⟩) tsO.length kO), isV (.pointer (some ⟨gO, 0 + 0 * 3, none⟩)), isV (.agg #[.int .i64 Wd, .int .i64 Ht, .slice sQ.A sQ.xs.length sQ.k]), isV (.agg #[.int .i64 Wd, .int .i64 Ht, .slice sQ.A sQ.xs.length sQ.k]), isV (.agg #[.int .i64 Wd, .int .i64 Ht, .slice sX.A sX.xs.length sX.k]), isV (.agg #[.int .i64 Wd, .int .i64 Ht, .slice sX.A sX.xs.length sX.k]), isV (.bool true), isV (.bool false), isV (.bool false), isV (.bool false), isV (.int .i64 (((i : Nat) : Int))), isV (.bool false), isV (.bool false), isV undef, isV undef, isV undef, isV undef, isV undef, isV undef, isV undef, isV undef, isV undef, isV (.bool false), isV (.bool false)] (by kernel_rfl) (by kernel_rfl) (by kernel_rfl) (by rfl) alloc_Z (fun d v c a w h => by cases d <;> exact h) ?_ ?_
          · intro qi qh qA aa wx hb hs hd
            match qi, qh, qA with
            | 0, _, _ => exact .inl ⟨rfl, op_mv rfl (hs 16 rfl)⟩
            | 1, _, _ => exact .inl ⟨rfl, pure_b (bool_eq (by decide)) (⟨_, op_neqE rfl (hd 0 rfl) rfl, rfl⟩)⟩
            | 2, _, _ => exact .inl ⟨rfl, op_mv rfl (hd 1 rfl)⟩
            | 3, _, _ => exact .inl ⟨⟨rfl, .inl (hd 2 rfl)⟩, op_mv rfl (hs 15 rfl)⟩
            | 4, _, _ => exact .inl ⟨⟨rfl, .inl (hd 2 rfl)⟩, op_lenT rfl rfl (hd 3 rfl)⟩
            | 5, _, _ => exact .inl ⟨⟨rfl, .inl (hd 2 rfl)⟩, pure_b (bool_eq (decide_eq_false (by omega))) (⟨_, op_eqlI rfl (hd 4 rfl) rfl, rfl⟩)⟩
            | 6, _, _ => exact .inl ⟨rfl, ⟨_, op_pickF rfl (hd 2 rfl) (hd 5 rfl), rfl⟩⟩
            | 7, _, _ => exact .inl ⟨rfl, op_mv rfl (hd 6 rfl)⟩
            | 8, _, _ => exact .inl ⟨⟨rfl, .inl (hd 7 rfl)⟩, op_mv rfl (hs 15 rfl)⟩
            | 9, _, _ => exact .inl ⟨⟨rfl, .inl (hd 7 rfl)⟩, op_run rfl (op_idxT (j := 0) hq0 rfl (hd 8 rfl) rfl _) rfl⟩
            | 10, _, _ => exact .inl ⟨⟨rfl, .inl (hd 7 rfl)⟩, op_ldvT rfl rfl (hd 9 rfl) (tcell_ld ((HE.out.to hb).get 2 rfl) HSQ.out)⟩
            | 11, _, _ => exact .inl ⟨⟨rfl, .inl (hd 7 rfl)⟩, op_call1 rfl rfl Try.call21 (by rw [(show aa.eval (.tmp 88) = .agg #[.int .i64 Wd, .int .i64 Ht, .slice sQ.A sQ.xs.length sQ.k] from (hd 10 rfl))]; exact own_got Wd Ht sQ.A sQ.xs.length sQ.k _)⟩
            | 12, _, _ => exact .inl ⟨⟨rfl, .inl (hd 7 rfl)⟩, op_ldT rfl rfl (hs 14 rfl) ((HE.out.to hb).get 1 rfl)⟩
            | 13, _, _ => exact .inl ⟨⟨rfl, .inl (hd 7 rfl)⟩, op_call1 rfl rfl Try.call21 (by rw [(show aa.eval (.tmp 90) = .agg #[.int .i64 Wd, .int .i64 Ht, .slice sX.A sX.xs.length sX.k] from (hd 12 rfl))]; exact own_got Wd Ht sX.A sX.xs.length sX.k _)⟩
            | 14, _, _ => exact .inl ⟨⟨rfl, .inl (hd 7 rfl)⟩, op_call2 rfl rfl Try.call20 (by rw [show aa.eval (.tmp 89) = _ from hd 11 rfl, show aa.eval (.tmp 91) = _ from hd 13 rfl]; exact same_yes Wd Ht (sX.xs) HXL.out _ _ _ (rd_ok ((OKO.out sQ (List.mem_of_getElem? HSQ.out)).to hb) HQX.out) (rd_ok ((OKL.out sX (List.mem_of_getElem? HSX.out)).to hb) rfl))⟩
            | 15, _, _ => exact .inl ⟨⟨rfl, .inl (hd 7 rfl)⟩, ⟨_, op_not rfl (hd 14 rfl), rfl⟩⟩
            | 16, _, _ => exact .inl ⟨rfl, ⟨_, op_pickF rfl (hd 7 rfl) (hd 15 rfl), rfl⟩⟩
            | 17, _, _ => exact .inl ⟨rfl, op_mv rfl (hd 16 rfl)⟩
            | 18, _, _ => exact .inl ⟨⟨rfl, .inl (hd 17 rfl)⟩, op_mv rfl (hs 13 rfl)⟩
            | 19, _, _ => exact .inl ⟨⟨rfl, .inl (hd 17 rfl)⟩, pure_b (bool_eq (decide_eq_false (by omega))) (⟨_, op_gtrI rfl (hd 18 rfl) rfl, rfl⟩)⟩
            | 20, _, _ => exact .inl ⟨⟨rfl, .inl (hd 17 rfl)⟩, op_mv rfl (hd 19 rfl)⟩
            | 21, _, _ => exact .inr ⟨⟨rfl, .inl (hd 20 rfl)⟩, rfl⟩
            | 22, _, _ => exact .inr ⟨⟨rfl, .inl (hd 20 rfl)⟩, rfl⟩
            | 23, _, _ => exact .inr ⟨⟨rfl, .inl (hd 20 rfl)⟩, rfl⟩
            | 24, _, _ => exact .inr ⟨⟨rfl, .inl (hd 20 rfl)⟩, rfl⟩
            | 25, _, _ => exact .inr ⟨⟨rfl, .inl (hd 20 rfl)⟩, rfl⟩
            | 26, _, _ => exact .inr ⟨⟨rfl, .inl (hd 20 rfl)⟩, rfl⟩
            | 27, _, _ => exact .inr ⟨⟨rfl, .inl (hd 20 rfl)⟩, rfl⟩
            | 28, _, _ => exact .inr ⟨⟨rfl, .inl (hd 20 rfl)⟩, rfl⟩
            | 29, _, _ => exact .inr ⟨⟨rfl, .inl (hd 20 rfl)⟩, rfl⟩
            | 30, _, _ => exact .inl ⟨⟨rfl, .inl (hd 17 rfl)⟩, ⟨_, op_pickF rfl (hd 20 rfl) rfl, rfl⟩⟩
            | 31, _, _ => exact .inl ⟨rfl, ⟨_, op_pickF rfl (hd 17 rfl) (hd 30 rfl), rfl⟩⟩
            | qi + 32, h, _ => omega
          intro vs X4 hb hv hal hne
          replace HB := Hd.mk (bel_then HB.out hb)
          replace HE := Hd.mk (HE.out.to hb)
          replace OKL := Hd.mk (OKL.out.to hb)
          replace OKO := Hd.mk (OKO.out.to hb)
          have e109 : vs 109 = .bool false := hv 31 (by decide) rfl
          simp only [PA, e109]
          clear hv hal hne hb e109
          go_upto_region 16 with fail
          refine wp_region_vd 4 [110, 111, 112, 113] [0, 1, 3] [] 84 [.int .i64 0, .int .i64 0] [isV (.int .i64 (((sm i : Nat) : Int))), isV (.slice (some ⟨gO, 0, none⟩) tsO.length kO), isV (.int .i64 (((tsO.length : Nat) : Int))), isV (.int .i64 (((sm (i + 1) : Nat) : Int)))] (by rfl) alloc_Z ?_ ?_
          · intro qi qh qA aa wx hb hs hd
            match qi, qh, qA with
            | 0, _, _ => exact .inl ⟨rfl, op_mv rfl (hs 11 rfl)⟩
            | 1, _, _ => exact .inl ⟨rfl, op_mv rfl (hs 15 rfl)⟩
            | 2, _, _ => exact .inl ⟨rfl, op_lenT rfl rfl (hd 1 rfl)⟩
            | 3, _, _ => exact .inl ⟨rfl, pure_b (int_eq HSN.out) (⟨_, op_add (by unfold Fit; rw [HSN.out]; omega) rfl (hd 0 rfl) (hd 2 rfl), rfl⟩)⟩
            | qi + 4, h, _ => omega
          intro vs X5 hb hv hal hne
          replace HB := Hd.mk (bel_then HB.out hb)
          replace HE := Hd.mk (HE.out.to hb)
          replace OKL := Hd.mk (OKL.out.to hb)
          replace OKO := Hd.mk (OKO.out.to hb)
          have e113 : vs 113 = .int .i64 (((sm (i + 1) : Nat) : Int)) := hv 3 (by decide) rfl
          simp only [PA, e113]
          clear hv hal hne hb e113
          go_wp2_with fail
          go_roundw
          case rel => exact ⟨i + 1, by omega, by go_num, rfl, Env.front (L := [⟨gL, 27, tsL.flatMap (encT Wd Ht) ++ restL⟩]) HE.out, OKL.out, HB.out⟩
          case measure => simp [intOf]; omega
        obtain ⟨sP, hsP⟩ : ∃ s, tsL[i - 1]? = some s := ⟨_, List.getElem?_eq_getElem (by omega)⟩
        have HSP := Hd.mk hsP
        have hzp : (listL Wd Ht ms K N)[i - 1]? = some sP.xs := by rw [← HML.out, List.getElem?_map, hsP]; rfl
        have HPL2 : Hd (sP.xs.length ≤ 1000000) := ⟨(OKL.out sP (List.mem_of_getElem? hsP)).2⟩
        have HNE2 : Hd (sX.xs ≠ sP.xs) := ⟨fun e => by
          have l2 := (List.getElem?_eq_some_iff.1 HZX.out).1
          have := (List.getElem?_inj l2 HND.out).1 (HZX.out.trans (by rw [hzp, e]))
          omega⟩
        clear hsP hzp
        go_upto_region 14 with fail
        refine wp_region_vg 32 [78, 79, 80, 81, 82, 83, 84, 85, 86, 87, 88, 89, 90, 91, 92, 93, 94, 95, 96, 97, 98, 99, 100, 101, 102, 103, 104, 105, 106, 107, 108, 109] [0, 1, 2, 3, 5, 6, 7, 8, 15, 16, 17, 18, 19, 20, 23, 24, 25, 30, 31] [] 84 [.int .i64 0, .int .i64 0] [isV (.int .i64 0), isV (.bool false), isV (.bool false), isV (.slice (some ⟨gO, 0, none⟩) tsO.length kO), isV (.int .i64 (((tsO.length : Nat) : Int))), isV (.bool false), isV (.bool false), isV (.bool false), isV (.slice (some ⟨gO, 0, none⟩) tsO.length kO), isV (.pointer (some ⟨gO, 0 + 0 * 3, none⟩)), isV (.agg #[.int .i64 Wd, .int .i64 Ht, .slice sQ.A sQ.xs.length sQ.k]), isV (.agg #[.int .i64 Wd, .int .i64 Ht, .slice sQ.A sQ.xs.length sQ.k]), isV (.agg #[.int .i64 Wd, .int .i64 Ht, .slice sX.A sX.xs.length sX.k]), isV (.agg #[.int .i64 Wd, .int .i64 Ht, .slice sX.A sX.xs.length sX.k]), isV (.bool true), isV (.bool false), isV (.bool false), isV (.bool false), isV (.int .i64 (((i : Nat) : Int))), isV (.bool true), isV (.bool true), isV (.agg #[.int .i64 Wd, .int .i64 Ht, .slice sX.A sX.xs.length sX.k]), isV (.agg #[.int .i64 Wd, .int .i64 Ht, .slice sX.A sX.xs.length sX.k]), isV (.slice (some ⟨gL, 0, none⟩) tsL.length kL), isV (.int .i64 (((i : Nat) : Int))), isV (.int .i64 (((i - 1 : Nat) : Int))), isV (.pointer (some ⟨gL, 0 + (i - 1) * 3, none⟩)), isV (.agg #[.int .i64 Wd, .int .i64 Ht, .slice sP.A sP.xs.length sP.k]), isV (.agg #[.int .i64 Wd, .int .i64 Ht, .slice sP.A sP.xs.length sP.k]), isV (.bool false), isV (.bool false), isV (.bool false)] (by kernel_rfl) (by kernel_rfl) (by kernel_rfl) (by rfl) alloc_Z (fun d v c a w h => by cases d <;> exact h) ?_ ?_
        · intro qi qh qA aa wx hb hs hd
          match qi, qh, qA with
          | 0, _, _ => exact .inl ⟨rfl, op_mv rfl (hs 16 rfl)⟩
          | 1, _, _ => exact .inl ⟨rfl, pure_b (bool_eq (by decide)) (⟨_, op_neqE rfl (hd 0 rfl) rfl, rfl⟩)⟩
          | 2, _, _ => exact .inl ⟨rfl, op_mv rfl (hd 1 rfl)⟩
          | 3, _, _ => exact .inl ⟨⟨rfl, .inl (hd 2 rfl)⟩, op_mv rfl (hs 15 rfl)⟩
          | 4, _, _ => exact .inl ⟨⟨rfl, .inl (hd 2 rfl)⟩, op_lenT rfl rfl (hd 3 rfl)⟩
          | 5, _, _ => exact .inl ⟨⟨rfl, .inl (hd 2 rfl)⟩, pure_b (bool_eq (decide_eq_false (by omega))) (⟨_, op_eqlI rfl (hd 4 rfl) rfl, rfl⟩)⟩
          | 6, _, _ => exact .inl ⟨rfl, ⟨_, op_pickF rfl (hd 2 rfl) (hd 5 rfl), rfl⟩⟩
          | 7, _, _ => exact .inl ⟨rfl, op_mv rfl (hd 6 rfl)⟩
          | 8, _, _ => exact .inl ⟨⟨rfl, .inl (hd 7 rfl)⟩, op_mv rfl (hs 15 rfl)⟩
          | 9, _, _ => exact .inl ⟨⟨rfl, .inl (hd 7 rfl)⟩, op_run rfl (op_idxT (j := 0) hq0 rfl (hd 8 rfl) rfl _) rfl⟩
          | 10, _, _ => exact .inl ⟨⟨rfl, .inl (hd 7 rfl)⟩, op_ldvT rfl rfl (hd 9 rfl) (tcell_ld ((HE.out.to hb).get 2 rfl) HSQ.out)⟩
          | 11, _, _ => exact .inl ⟨⟨rfl, .inl (hd 7 rfl)⟩, op_call1 rfl rfl Try.call21 (by rw [(show aa.eval (.tmp 88) = .agg #[.int .i64 Wd, .int .i64 Ht, .slice sQ.A sQ.xs.length sQ.k] from (hd 10 rfl))]; exact own_got Wd Ht sQ.A sQ.xs.length sQ.k _)⟩
          | 12, _, _ => exact .inl ⟨⟨rfl, .inl (hd 7 rfl)⟩, op_ldT rfl rfl (hs 14 rfl) ((HE.out.to hb).get 1 rfl)⟩
          | 13, _, _ => exact .inl ⟨⟨rfl, .inl (hd 7 rfl)⟩, op_call1 rfl rfl Try.call21 (by rw [(show aa.eval (.tmp 90) = .agg #[.int .i64 Wd, .int .i64 Ht, .slice sX.A sX.xs.length sX.k] from (hd 12 rfl))]; exact own_got Wd Ht sX.A sX.xs.length sX.k _)⟩
          | 14, _, _ => exact .inl ⟨⟨rfl, .inl (hd 7 rfl)⟩, op_call2 rfl rfl Try.call20 (by rw [show aa.eval (.tmp 89) = _ from hd 11 rfl, show aa.eval (.tmp 91) = _ from hd 13 rfl]; exact same_yes Wd Ht (sX.xs) HXL.out _ _ _ (rd_ok ((OKO.out sQ (List.mem_of_getElem? HSQ.out)).to hb) HQX.out) (rd_ok ((OKL.out sX (List.mem_of_getElem? HSX.out)).to hb) rfl))⟩
          | 15, _, _ => exact .inl ⟨⟨rfl, .inl (hd 7 rfl)⟩, ⟨_, op_not rfl (hd 14 rfl), rfl⟩⟩
          | 16, _, _ => exact .inl ⟨rfl, ⟨_, op_pickF rfl (hd 7 rfl) (hd 15 rfl), rfl⟩⟩
          | 17, _, _ => exact .inl ⟨rfl, op_mv rfl (hd 16 rfl)⟩
          | 18, _, _ => exact .inl ⟨⟨rfl, .inl (hd 17 rfl)⟩, op_mv rfl (hs 13 rfl)⟩
          | 19, _, _ => exact .inl ⟨⟨rfl, .inl (hd 17 rfl)⟩, pure_b (bool_eq (decide_eq_true (by omega))) (⟨_, op_gtrI rfl (hd 18 rfl) rfl, rfl⟩)⟩
          | 20, _, _ => exact .inl ⟨⟨rfl, .inl (hd 17 rfl)⟩, op_mv rfl (hd 19 rfl)⟩
          | 21, _, _ => exact .inl ⟨⟨rfl, .inl (hd 20 rfl)⟩, op_ldT rfl rfl (hs 14 rfl) ((HE.out.to hb).get 1 rfl)⟩
          | 22, _, _ => exact .inl ⟨⟨rfl, .inl (hd 20 rfl)⟩, op_call1 rfl rfl Try.call21 (by rw [(show aa.eval (.tmp 99) = .agg #[.int .i64 Wd, .int .i64 Ht, .slice sX.A sX.xs.length sX.k] from (hd 21 rfl))]; exact own_got Wd Ht sX.A sX.xs.length sX.k _)⟩
          | 23, _, _ => exact .inl ⟨⟨rfl, .inl (hd 20 rfl)⟩, op_mv rfl (hs 9 rfl)⟩
          | 24, _, _ => exact .inl ⟨⟨rfl, .inl (hd 20 rfl)⟩, op_mv rfl (hs 13 rfl)⟩
          | 25, _, _ => exact .inl ⟨⟨rfl, .inl (hd 20 rfl)⟩, pure_b (int_eq (by omega)) (⟨_, op_sub (by unfold Fit; omega) rfl (hd 24 rfl) rfl, rfl⟩)⟩
          | 26, _, _ => exact .inl ⟨⟨rfl, .inl (hd 20 rfl)⟩, op_run rfl (op_idxT (j := i - 1) (by omega) rfl (hd 23 rfl) (hd 25 rfl) _) rfl⟩
          | 27, _, _ => exact .inl ⟨⟨rfl, .inl (hd 20 rfl)⟩, op_ldvT rfl rfl (hd 26 rfl) (by rw [Nat.zero_add]; exact tcell_ld ((HE.out.to hb).get 0 rfl) HSP.out)⟩
          | 28, _, _ => exact .inl ⟨⟨rfl, .inl (hd 20 rfl)⟩, op_call1 rfl rfl Try.call21 (by rw [(show aa.eval (.tmp 105) = .agg #[.int .i64 Wd, .int .i64 Ht, .slice sP.A sP.xs.length sP.k] from (hd 27 rfl))]; exact own_got Wd Ht sP.A sP.xs.length sP.k _)⟩
          | 29, _, _ => exact .inl ⟨⟨rfl, .inl (hd 20 rfl)⟩, op_call2 rfl rfl Try.call20 (by rw [show aa.eval (.tmp 100) = _ from hd 22 rfl, show aa.eval (.tmp 106) = _ from hd 28 rfl]; exact same_no Wd Ht HNE2.out HXL.out HPL2.out _ _ _ (rd_ok ((OKL.out sX (List.mem_of_getElem? HSX.out)).to hb) rfl) (rd_ok ((OKL.out sP (List.mem_of_getElem? HSP.out)).to hb) rfl))⟩
          | 30, _, _ => exact .inl ⟨⟨rfl, .inl (hd 17 rfl)⟩, ⟨_, op_pickT rfl (hd 20 rfl) (hd 29 rfl), rfl⟩⟩
          | 31, _, _ => exact .inl ⟨rfl, ⟨_, op_pickF rfl (hd 17 rfl) (hd 30 rfl), rfl⟩⟩
          | qi + 32, h, _ => omega
        intro vs X4 hb hv hal hne
        replace HB := Hd.mk (bel_then HB.out hb)
        replace HE := Hd.mk (HE.out.to hb)
        replace OKL := Hd.mk (OKL.out.to hb)
        replace OKO := Hd.mk (OKO.out.to hb)
        have e109 : vs 109 = .bool false := hv 31 (by decide) rfl
        simp only [PA, e109]
        clear hv hal hne hb e109
        go_upto_region 16 with fail
        refine wp_region_vd 4 [110, 111, 112, 113] [0, 1, 3] [] 84 [.int .i64 0, .int .i64 0] [isV (.int .i64 (((sm i : Nat) : Int))), isV (.slice (some ⟨gO, 0, none⟩) tsO.length kO), isV (.int .i64 (((tsO.length : Nat) : Int))), isV (.int .i64 (((sm (i + 1) : Nat) : Int)))] (by rfl) alloc_Z ?_ ?_
        · intro qi qh qA aa wx hb hs hd
          match qi, qh, qA with
          | 0, _, _ => exact .inl ⟨rfl, op_mv rfl (hs 11 rfl)⟩
          | 1, _, _ => exact .inl ⟨rfl, op_mv rfl (hs 15 rfl)⟩
          | 2, _, _ => exact .inl ⟨rfl, op_lenT rfl rfl (hd 1 rfl)⟩
          | 3, _, _ => exact .inl ⟨rfl, pure_b (int_eq HSN.out) (⟨_, op_add (by unfold Fit; rw [HSN.out]; omega) rfl (hd 0 rfl) (hd 2 rfl), rfl⟩)⟩
          | qi + 4, h, _ => omega
        intro vs X5 hb hv hal hne
        replace HB := Hd.mk (bel_then HB.out hb)
        replace HE := Hd.mk (HE.out.to hb)
        replace OKL := Hd.mk (OKL.out.to hb)
        replace OKO := Hd.mk (OKO.out.to hb)
        have e113 : vs 113 = .int .i64 (((sm (i + 1) : Nat) : Int)) := hv 3 (by decide) rfl
        simp only [PA, e113]
        clear hv hal hne hb e113
        go_wp2_with fail
        go_roundw
        case rel => exact ⟨i + 1, by omega, by go_num, rfl, Env.front (L := [⟨gL, 27, tsL.flatMap (encT Wd Ht) ++ restL⟩]) HE.out, OKL.out, HB.out⟩
        case measure => simp [intOf]; omega
      have e1 : i = tsL.length := by omega
      have epn : sm i = M := by rw [e1]; exact HME.out
      clear e1
      rw [epn]
      clear epn
      go_upto_region 18 with fail
      refine wp_region_vd 6 [115, 116, 117, 118, 119, 120] [0, 1, 2, 3, 5] [] 84 [.int .i64 0, .int .i64 0] [isV (.int .i64 (((M : Nat) : Int))), isV (.int .i64 (((M : Nat) : Int))), isV (.bool true), isV (.bool true), isV (.bool true), isV (.bool true)] (by rfl) alloc_Z ?_ ?_
      · intro qi qh qA aa wx hb hs hd
        match qi, qh, qA with
        | 0, _, _ => exact .inl ⟨rfl, op_mv rfl (hs 11 rfl)⟩
        | 1, _, _ => exact .inl ⟨rfl, op_mv rfl (hs 12 rfl)⟩
        | 2, _, _ => exact .inl ⟨rfl, pure_b (bool_eq (by simp)) (⟨_, op_eqlI rfl (hd 0 rfl) (hd 1 rfl), rfl⟩)⟩
        | 3, _, _ => exact .inl ⟨rfl, op_mv rfl (hd 2 rfl)⟩
        | 4, _, _ => exact .inl ⟨⟨rfl, .inl (hd 3 rfl)⟩, op_call0 rfl rfl Try.call18 (awake_got _)⟩
        | 5, _, _ => exact .inl ⟨rfl, ⟨_, op_pickT rfl (hd 3 rfl) (hd 4 rfl), rfl⟩⟩
        | qi + 6, h, _ => omega
      intro vs X1 hb hv hal hne
      replace HB := Hd.mk (bel_then HB.out hb)
      replace HE := Hd.mk (HE.out.to hb)
      replace OKL := Hd.mk (OKL.out.to hb)
      have e120 : vs 120 = .bool true := hv 5 (by decide) rfl
      simp only [PA, e120]
      clear hv hal hne hb e120
      go_wp2_with fail
      go_ret
      exact ⟨_, rfl, HB.out, rfl⟩
end Go.Proofs.Ytddbmckbankmeaa
set_option linter.unusedVariables false
namespace Go.Proofs.Ytddbmckbankmeaa
open Go.RowKit
theorem StampAll_walk (x y z : Int) (l : RMs) (w : World) (_ : (Lit.int .i64 x).wf = true) (_ : (Lit.int .i64 y).wf = true) (_ : (Lit.int .i64 z).wf = true) (hl : l.at_ w) : Calls Try.prog 10 #[.int .i64 x, .int .i64 y, .int .i64 z, l.v] w fun e w' => e = .returned (.bool true) ∧ Below w.heap.size w w' := by
  obtain ⟨A, k, ms⟩ := l
  obtain ⟨hr, hn⟩ := hl
  refine Calls.mono ?_ (show ∀ e w', Got w (isV (.bool true)).p e w' → _ from fun e w' ⟨v, he, hb, hv⟩ => ⟨by rw [he, show v = .bool true from hv], hb⟩)
  have hx := (mod_u x (n := 3) (by decide)).1
  have hy := (mod_u y (n := 2) (by decide)).1
  have hz := (mod_u z (n := 3) (by decide)).1
  obtain ⟨Wd, hW⟩ : ∃ u, 1 + (IntKind.u64.wrap x).tmod 3 = u := ⟨_, rfl⟩
  obtain ⟨Ht, hH⟩ : ∃ u, 1 + (IntKind.u64.wrap y).tmod 2 = u := ⟨_, rfl⟩
  obtain ⟨K, hK⟩ : ∃ K : Nat, 1 + (IntKind.u64.wrap z).tmod 3 = (K : Int) := ⟨(1 + (IntKind.u64.wrap z).tmod 3).toNat, by omega⟩
  obtain ⟨N, hN⟩ : ∃ N : Nat, (N : Int) = Wd * Ht := ⟨(Wd * Ht).toNat, Int.toNat_of_nonneg (Int.mul_nonneg (by omega) (by omega))⟩
  have hs : sizeB Wd Ht = true := by unfold sizeB; simp; omega
  cases hg : gB Wd Ht (ms.take 521)
  · exact SAll_no x y z Wd Ht K N A k ms w hr hn hW hH hK hN hg
  have ht := gp_take hs hg
  rw [ht] at hg
  exact SAll_yes x y z Wd Ht K N A k ms w hr hn hW hH hK hN hg
end Go.Proofs.Ytddbmckbankmeaa
