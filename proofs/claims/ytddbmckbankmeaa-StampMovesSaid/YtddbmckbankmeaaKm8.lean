/- Part 8 of the texts behind this claim. -/
import Derived.Laws.StructEq
import Derived.Test.YtddbmckbankmeaaKm7
set_option linter.unusedVariables false
set_option linter.unusedSimpArgs false
namespace Go.Proofs.Ytddbmckbankmeaa
open Go.RowKit
def rdS (W H : Int) (xs : List Int) : SP := ⟨fun v w => ∃ A k, v = .agg #[.int .i64 W, .int .i64 H, .slice A xs.length k] ∧ RI w A xs, fun v w w' ⟨A, k, h1, h2⟩ hb => ⟨A, k, h1, h2.to hb⟩⟩
section
variable {w : World} {v v1 v2 : Value} {W H W' H' x y t : Int} {f : Bool} {xs ys : List Int} {lo : Nat} {A : Option Addr} {k n : Nat}
theorem rd_fs (h : (isFS lo W H xs).p v w) : (rdS W H xs).p v w := let ⟨g, k, rest, h1, _, _, _, hb⟩ := h; ⟨_, _, h1, hb.ri⟩
theorem rd_ex (h : v = .agg #[.int .i64 W, .int .i64 H, .slice A xs.length k]) (hr : RI w A xs) : (rdS W H xs).p v w := ⟨A, k, h, hr⟩
theorem same_rd (W H : Int) (xs : List Int) (W' H' : Int) (ys : List Int) (hl1 : xs.length ≤ 1000000) (hl2 : ys.length ≤ 1000000) (v1 v2 : Value) (w : World) (h1 : (rdS W H xs).p v1 w) (h2 : (rdS W' H' ys).p v2 w) :
    Calls Try.prog 20 #[v1, v2] w (Got w (isV (.bool (decide (W = W') && decide (H = H') && decide (xs = ys)))).p) := by
  obtain ⟨A, k, rfl, r1⟩ := h1
  obtain ⟨A', k', rfl, r2⟩ := h2
  exact stsame_got W H A k xs W' H' A' k' ys w r1 r2 hl1 hl2
theorem same_yes (W H : Int) (xs : List Int) (hl1 : xs.length ≤ 1000000) (v1 v2 : Value) (w : World) (h1 : (rdS W H xs).p v1 w) (h2 : (rdS W H xs).p v2 w) : Calls Try.prog 20 #[v1, v2] w (Got w (isV (.bool true)).p) := by
  have h := same_rd W H xs W H xs hl1 hl1 v1 v2 w h1 h2
  simp only [decide_true, Bool.and_self] at h
  exact h
theorem Apply_rd (W H x y t : Int) (f : Bool) (xs : List Int) (hv : validB W H xs = true) (hm : alB W H x y t = true) (v2 : Value) (w : World) (h2 : (rdS W H xs).p v2 w) :
    Calls Try.prog 13 #[.agg #[.int .i64 x, .int .i64 y, .int .i64 t, .bool f], v2] w (Got w (isP (isFS w.heap.size W H (apL W H x y t f xs)) (isV (.int .i64 0))).p) := by
  obtain ⟨A, k, rfl, r⟩ := h2
  obtain ⟨ad, rfl⟩ := valid_some r hv
  exact Apply_ad W H x y t f ad k xs w r hv hm
end
theorem apL_aw : apL 2 1 1 0 0 false [0, 1] = [1, 0] := by decide
theorem valid_aw : validB 2 1 [0, 1] = true := by decide
theorem al_aw : alB 2 1 1 0 0 = true := by decide
set_option maxRecDepth 100000 in
set_option maxHeartbeats 1000000 in
theorem awake_got (w : World) :
    Calls Try.prog 18 #[] w (Got w (isV (.bool true)).p) := by
  go_enter Try.func18, Try.ntmps18
  go_upto_region 1 with fail
  have HE : Hd (Env w []) := ⟨trivial⟩
  have HB : Hd (Below w.heap.size w w) := ⟨Below.refl _ _⟩
  refine wp_region_vd 8 [4, 5, 6, 7, 3, 8, 9, 1] [0, 2, 4, 5, 6] [7] 27 [.int .i64 0, .int .i64 0, .slice none 0 0] [isV (.agg #[.int .i64 1, .int .i64 0, .int .i64 0, .bool false]), isF w.heap.size ([0, 1]), isFS w.heap.size 2 1 ([0, 1]), isP (isFS w.heap.size 2 1 (apL 2 1 1 0 0 false ([0, 1]))) (isV (.int .i64 0)), isP (isFS w.heap.size 2 1 (apL 2 1 1 0 0 false ([0, 1]))) (isV (.int .i64 0)), isFS w.heap.size 2 1 (apL 2 1 1 0 0 false ([0, 1])), isV (.int .i64 0), SP.any] (by rfl) alloc_T ?_ ?_
  · intro qi qh qA aa wx hb hs hd
    match qi, qh, qA with
    | 0, _, _ => exact .inl ⟨rfl, ⟨_, op_buM0 rfl rfl, rfl⟩⟩
    | 1, _, _ => exact .inl ⟨rfl, op_lit2 rfl rfl w.heap.size hb.size⟩
    | 2, _, _ => exact .inl ⟨rfl, op_buTF rfl rfl rfl (hd 1 rfl)⟩
    | 3, _, _ => exact .inl ⟨rfl, op_call2 rfl rfl Try.call13 (by rw [show aa.eval (.tmp 4) = .agg #[.int .i64 1, .int .i64 0, .int .i64 0, .bool false] from (hd 0 rfl)]; exact got_fsp hb.size (Apply_rd 2 1 1 0 0 false ([0, 1]) valid_aw al_aw _ _ (rd_fs (hd 2 rfl))))⟩
    | 4, _, _ => exact .inl ⟨rfl, op_mv rfl (hd 3 rfl)⟩
    | 5, _, _ => exact .inl ⟨rfl, op_fst rfl (hd 4 rfl)⟩
    | 6, _, _ => exact .inl ⟨rfl, op_snd rfl (hd 4 rfl)⟩
    | 7, _, h => cases h
    | qi + 8, h, _ => omega
  intro vs X1 hb hv hal hne
  have HL0 := Hd.mk (HE.out.lt)
  have HBW := HB
  replace HB := Hd.mk (bel_then HB.out hb)
  replace HE := Hd.mk (HE.out.to hb)
  have t8 : (isFS w.heap.size 2 1 (apL 2 1 1 0 0 false ([0, 1]))).p (vs 8) X1 := hv 5 (by decide) rfl
  obtain ⟨g8, k8, rest8, e8, l8, m8, n8, b8⟩ := t8
  replace HE : Hd (Env X1 [⟨g8, 3, ints (apL 2 1 1 0 0 false ([0, 1])) ++ rest8⟩]) := ⟨Env.addne (e := ⟨g8, 3, ints (apL 2 1 1 0 0 false ([0, 1])) ++ rest8⟩) HE.out b8 (fun e' he => Nat.ne_of_lt (Nat.lt_of_lt_of_le (HL0.out e' he) l8))⟩
  have G8 : Hd (w.heap.size ≤ g8) := ⟨Nat.le_trans HBW.out.size l8⟩
  have e9 : vs 9 = .int .i64 0 := hv 6 (by decide) rfl
  obtain ⟨g1, e1, l1, b1⟩ : ∃ g, vs 1 = .pointer (some ⟨g, 0, none⟩) ∧ _ := hal 7 rfl
  replace HE : Hd (Env X1 [⟨g8, 3, ints (apL 2 1 1 0 0 false ([0, 1])) ++ rest8⟩, ⟨g1, 27, [.int .i64 0, .int .i64 0, .slice none 0 0]⟩]) := ⟨Env.addne (e := ⟨g1, 27, [.int .i64 0, .int .i64 0, .slice none 0 0]⟩) HE.out b1 (fun e' he => (List.mem_append.1 (show e' ∈ _ ++ [_] from he)).elim (fun he => Nat.ne_of_lt (Nat.lt_of_lt_of_le (HL0.out e' he) l1)) (fun he => by rw [List.mem_singleton.1 he]; exact blk_ne b8 b1 (by decide)))⟩
  have G1 : Hd (w.heap.size ≤ g1) := ⟨Nat.le_trans HBW.out.size l1⟩
  simp only [PA, e8, e9, e1]
  clear hv hal hne hb HL0 HBW e8 e9 e1 l8 b8 l1 b1
  refine wpList_st rfl rfl rfl rfl rfl (sto_T (HE.out.get 1 rfl)) ?_
  have HE' : Env (putL X1 g1 0 [.int .i64 2, .int .i64 1, .slice (some ⟨g8, 0, none⟩) ((apL 2 1 1 0 0 false ([0, 1])).length) k8]) [⟨g8, 3, ints (apL 2 1 1 0 0 false ([0, 1])) ++ rest8⟩, ⟨g1, 27, [.int .i64 2, .int .i64 1, .slice (some ⟨g8, 0, none⟩) ((apL 2 1 1 0 0 false ([0, 1])).length) k8]⟩] := HE.out.putF 1 rfl rfl
  have HB' := putL_below (show w.heap.size ≤ g1 from G1.out) [.int .i64 2, .int .i64 1, .slice (some ⟨g8, 0, none⟩) ((apL 2 1 1 0 0 false ([0, 1])).length) k8] _ 0 HB.out
  generalize putL X1 g1 0 [.int .i64 2, .int .i64 1, .slice (some ⟨g8, 0, none⟩) ((apL 2 1 1 0 0 false ([0, 1])).length) k8] = X2 at *
  replace HE := Hd.mk HE'
  replace HB := Hd.mk HB'
  clear HE' HB'
  go_upto_region 2 with fail
  refine wp_region_vd 9 [10, 11, 12, 13, 14, 15, 16, 17, 18] [0, 1, 2, 6, 8] [] 84 [.int .i64 0, .int .i64 0] [isV (.int .i64 0), isV (.bool true), isV (.bool true), isV (.agg #[.int .i64 2, .int .i64 1, .slice (some ⟨g8, 0, none⟩) ((apL 2 1 1 0 0 false ([0, 1])).length) k8]), isV (.agg #[.int .i64 2, .int .i64 1, .slice (some ⟨g8, 0, none⟩) ((apL 2 1 1 0 0 false ([0, 1])).length) k8]), isF X2.heap.size ([1, 0]), isFS X2.heap.size 2 1 ([1, 0]), isV (.bool true), isV (.bool true)] (by rfl) alloc_Z ?_ ?_
  · intro qi qh qA aa wx hb hs hd
    match qi, qh, qA with
    | 0, _, _ => exact .inl ⟨rfl, op_mv rfl (hs 2 rfl)⟩
    | 1, _, _ => exact .inl ⟨rfl, pure_b (bool_eq (by decide)) (⟨_, op_eqlE rfl (hd 0 rfl) rfl, rfl⟩)⟩
    | 2, _, _ => exact .inl ⟨rfl, op_mv rfl (hd 1 rfl)⟩
    | 3, _, _ => exact .inl ⟨⟨rfl, .inl (hd 2 rfl)⟩, op_ldT rfl rfl (hs 1 rfl) ((HE.out.to hb).get 1 rfl)⟩
    | 4, _, _ => exact .inl ⟨⟨rfl, .inl (hd 2 rfl)⟩, op_call1 rfl rfl Try.call21 (by rw [(show aa.eval (.tmp 13) = .agg #[.int .i64 2, .int .i64 1, .slice (some ⟨g8, 0, none⟩) ((apL 2 1 1 0 0 false ([0, 1])).length) k8] from (hd 3 rfl))]; exact own_got 2 1 (some ⟨g8, 0, none⟩) ((apL 2 1 1 0 0 false ([0, 1])).length) k8 _)⟩
    | 5, _, _ => exact .inl ⟨⟨rfl, .inl (hd 2 rfl)⟩, op_lit2 rfl rfl X2.heap.size hb.size⟩
    | 6, _, _ => exact .inl ⟨⟨rfl, .inl (hd 2 rfl)⟩, op_buUF rfl rfl rfl (hd 5 rfl)⟩
    | 7, _, _ => exact .inl ⟨⟨rfl, .inl (hd 2 rfl)⟩, op_call2 rfl rfl Try.call20 (same_yes 2 1 [1, 0] (by decide) _ _ _ (by have h := (rd_ex (xs := apL 2 1 1 0 0 false ([0, 1])) (hd 4 rfl) ((HE.out.to hb).get 0 rfl).ri); rw [apL_aw] at h; exact h) (rd_fs (hd 6 rfl)))⟩
    | 8, _, _ => exact .inl ⟨rfl, ⟨_, op_pickT rfl (hd 2 rfl) (hd 7 rfl), rfl⟩⟩
    | qi + 9, h, _ => omega
  intro vs X3 hb hv hal hne
  replace HB := Hd.mk (bel_then HB.out hb)
  replace HE := Hd.mk (HE.out.to hb)
  have e18 : vs 18 = .bool true := hv 8 (by decide) rfl
  simp only [PA, e18]
  clear hv hal hne hb e18
  go_wp2_with fail
  go_ret
  exact ⟨_, rfl, HB.out, rfl⟩
end Go.Proofs.Ytddbmckbankmeaa
set_option linter.unusedVariables false
set_option linter.unusedSimpArgs false
namespace Go.Proofs.Ytddbmckbankmeaa
open Go.RowKit
structure Mv where
  x : Int
  y : Int
  t : Int
  f : Bool
structure Al (W H : Int) (m : Mv) : Prop where
  w : 1 ≤ W ∧ W ≤ 8
  h : 1 ≤ H ∧ H ≤ 8
  x : 0 ≤ m.x ∧ m.x < W
  y : 0 ≤ m.y ∧ m.y < H
  t : 0 ≤ m.t ∧ m.t < 4
  p : m.t % 2 = 0 ∨ W = H
theorem al_of {W H x y t : Int} {f : Bool} (h1 : sizeB W H = true) (h2 : alB W H x y t = true) : Al W H ⟨x, y, t, f⟩ := by
  obtain ⟨a, b, c, d, e⟩ := okm h1 h2
  unfold alB at h2
  simp only [Bool.and_eq_true, decide_eq_true_eq, Bool.or_eq_true] at h2
  exact ⟨a, b, c, d, e, h2.2⟩
theorem Al.al {W H : Int} {m : Mv} (h : Al W H m) : alB W H m.x m.y m.t = true := by
  obtain ⟨a, b, c, d, e, g⟩ := h
  unfold alB
  simp only [Bool.and_eq_true, decide_eq_true_eq, Bool.or_eq_true]
  exact ⟨⟨⟨⟨⟨⟨c.1, c.2⟩, d.1⟩, d.2⟩, e.1⟩, e.2⟩, g⟩
def act (W H : Int) (m : Mv) (p : Int × Int) : Int × Int := (((trn m.f p.1 p.2 m.t.toNat).1 + m.x) % W, ((trn m.f p.1 p.2 m.t.toNat).2 + m.y) % H)
def aftM (W H : Int) (m n : Mv) : Mv := ⟨(act W H m (n.x, n.y)).1, (act W H m (n.x, n.y)).2, (m.t + if m.f = true then 4 - n.t else n.t) % 4, m.f != n.f⟩
section
variable {W H : Int} {m n q : Mv}
theorem act_lt (h : Al W H m) (p : Int × Int) : (0 ≤ (act W H m p).1 ∧ (act W H m p).1 < W) ∧ 0 ≤ (act W H m p).2 ∧ (act W H m p).2 < H := by
  have hw := h.w
  have hh := h.h
  exact ⟨⟨Int.emod_nonneg _ (by omega), Int.emod_lt_of_pos _ (by omega)⟩, Int.emod_nonneg _ (by omega), Int.emod_lt_of_pos _ (by omega)⟩
theorem aft_al (h : Al W H m) (k : Al W H n) : Al W H (aftM W H m n) := by
  have hp := act_lt h (n.x, n.y)
  have h1 := h.t
  have h2 := h.p
  have k1 := k.t
  have k2 := k.p
  refine ⟨h.w, h.h, hp.1, hp.2, ?_, ?_⟩
  · show 0 ≤ (_ : Int) % 4 ∧ (_ : Int) % 4 < 4
    omega
  show (m.t + if m.f = true then 4 - n.t else n.t) % 4 % 2 = 0 ∨ _
  cases m.f <;> simp <;> omega
theorem turn_nat (h : Al W H m) (k : Al W H n) : (aftM W H m n).t.toNat = (m.t.toNat + if m.f = true then 4 - n.t.toNat else n.t.toNat) % 4 := by
  have h1 := h.t
  have k1 := k.t
  show ((m.t + if m.f = true then 4 - n.t else n.t) % 4).toNat = _
  cases m.f <;> simp <;> omega
end
end Go.Proofs.Ytddbmckbankmeaa
set_option linter.unusedVariables false
set_option linter.unusedSimpArgs false
namespace Go.Proofs.Ytddbmckbankmeaa
open Go.RowKit
section
variable {o : Oper} {a : Act} {x y : Operand} {ty : TypeId} {i j t : Int} {f : Bool}
theorem op_neqN (ho : o.op = .binOp .neq 26 x y ty) (hx : a.eval x = .agg #[.int .i64 i, .int .i64 j, .int .i64 t, .bool f]) (hy : a.eval y = .agg #[.int .i64 i, .int .i64 j, .int .i64 t, .bool f]) (w : World) : (execOp a.eval o).run Try.prog w = .ok (.value (.bool false)) w := by
  generalize a.eval = ev at hx hy ⊢
  unfold execOp
  simp only [ho, hx, hy]
  simp [go_sem]
end
section
variable {W H : Int} {m n : Mv} {xs : List Int}
theorem Al.size (h : Al W H m) : sizeB W H = true := by
  have h1 := h.w
  have h2 := h.h
  unfold sizeB
  simp only [Bool.and_eq_true, decide_eq_true_eq]
  exact ⟨h1, h2⟩
end
end Go.Proofs.Ytddbmckbankmeaa
