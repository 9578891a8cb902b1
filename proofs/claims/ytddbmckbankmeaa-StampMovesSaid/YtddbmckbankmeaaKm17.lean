/- Part 17 of the texts behind this claim. -/
import Derived.RangeFuncNested
import Derived.RangeFuncBound
import Derived.RangeFuncCalls
import Derived.RangeFuncLeaves
import Derived.RangeFuncBox
import Derived.Shelf.Abstract
import Derived.WalkKit
import Derived.OwnWalkIn
import Derived.TacticsInMore
import Derived.LoopNIn
import Derived.LoopIn
import Derived.Maps.AppendAt
import Derived.Test.YtddbmckbankmeaaKm1
import Derived.Test.YtddbmckbankmeaaKm13
set_option linter.unusedVariables false
set_option linter.unusedSimpArgs false
namespace Go.Proofs.Ytddbmckbankmeaa
open Go.RowKit Go.Shelf
attribute [local go_sem] Oper.semAt_some
def mvV (m : Mv) : Value := .agg #[.int .i64 m.x, .int .i64 m.y, .int .i64 m.t, .bool m.f]
def KpM (W W' : World) : Prop := W.heap.size ≤ W'.heap.size ∧ ∀ g t us, t ≠ 31 → t ≠ 54 → Blk W g t us → Blk W' g t us
theorem KpM.trans {A B C : World} (h : KpM A B) (k : KpM B C) : KpM A C := ⟨Nat.le_trans h.1 k.1, fun g t us h1 h2 hb => k.2 g t us h1 h2 (h.2 g t us h1 h2 hb)⟩
theorem KpM.env {w w' : World} (h : KpM w w') : ∀ {L : List Ent}, Env w L → (∀ e ∈ L, e.t ≠ 31 ∧ e.t ≠ 54) → Env w' L
  | [], _, _ => trivial
  | e :: L, ⟨h1, h2, h3⟩, ht => ⟨h.2 _ _ _ (ht e (List.mem_cons_self ..)).1 (ht e (List.mem_cons_self ..)).2 h1, h2, KpM.env h h3 fun e' he => ht e' (List.mem_cons_of_mem _ he)⟩
def JW (J : List Mv → World → Prop) (pre : List Mv) (bm : Nat) (X : World) : Prop := ∃ W1, W1.heap.size = bm + 1 ∧ J pre W1 ∧ Below W1.heap.size W1 X
section
variable {J : List Mv → World → Prop} {pre : List Mv} {bm g o : Nat} {X X' : World} {vs : List Value}
theorem JW.lt (h : JW J pre bm X) : bm < X.heap.size := let ⟨W1, h1, _, h3⟩ := h; by have := h3.size; omega
theorem JW.to (h : JW J pre bm X) (hb : Below X.heap.size X X') : JW J pre bm X' := let ⟨W1, h1, h2, h3⟩ := h; ⟨W1, h1, h2, below_then h3 h3.size hb⟩
theorem JW.put (h : JW J pre bm X) (hg : bm < g) : JW J pre bm (putL X g o vs) := let ⟨W1, h1, h2, h3⟩ := h; ⟨W1, h1, h2, putL_below (by omega) vs _ o h3⟩
theorem JW.get {B : Nat} (h : JW J pre bm X) (hJ : AbidesFrom B J) : J pre X := let ⟨W1, h1, h2, h3⟩ := h; hJ pre W1 X none h2 (bel_grown h3) (fun r e => by cases e)
theorem JW.new (h : J pre X) (h0 : 0 < X.heap.size) : JW J pre (X.heap.size - 1) X := ⟨X, by omega, h, Below.refl _ _⟩
end
section
variable {Q : Exit → Act → World → Prop} {o : Oper} {a : Act} {w : World} {d : Nat} {b0 b1 : Bool}
theorem op_litB (ho : o.op = .buildSlice 101 2 #[(0, .const (.bool b0)), (1, .const (.bool b1))]) (hd : o.dst = some d) (lo : Nat) (hl : lo ≤ w.heap.size) : o.wp Try.prog a w (Post a w d (isBs lo [b0, b1]).p) Q := by
  have hr : (execOp a.eval o).run Try.prog w = .ok (.value (.slice (some ⟨w.heap.size, 0, none⟩) 2 2)) (w.alloc (.cells #[.bool b0, .bool b1] 4)) := by
    have h1 : a.eval (.const (.bool b0)) = .bool b0 := rfl
    have h2 : a.eval (.const (.bool b1)) = .bool b1 := rfl
    generalize a.eval = ev at h1 h2 ⊢
    unfold execOp
    simp only [ho]
    simp [go_sem, h1, h2]
  unfold Oper.wp
  rw [hr]
  show Post a w d _ (a.put o.dst _) _
  rw [hd]
  have hB : Blk (w.alloc (.cells #[.bool b0, .bool b1] 4)) w.heap.size 4 [.bool b0, .bool b1] := heap_alloc_new _ _
  exact ⟨_, rfl, below_alloc (Below.refl _ _) _, w.heap.size, rfl, hl, [], by simpa [bools] using hB⟩
theorem op_lenBL {lo : Nat} {bs : List Bool} {x : Operand} (ho : o.op = .call { callee := .builtin .len, args := #[x], argTypes := #[101] }) (hd : o.dst = some d) (hx : (isBs lo bs).p (a.eval x) w) : o.wp Try.prog a w (Post a w d (isV (.int .i64 ((bs.length : Nat) : Int))).p) Q := by
  obtain ⟨g, hx, _⟩ := hx
  refine op_run hd ?_ rfl
  generalize a.eval = ev at hx ⊢
  unfold execOp
  simp only [ho]
  simp [go_sem, hx]
end
theorem bo_at {q : Nat} (h : q < 2) : [false, true].getD ((q : Nat) : Int).toNat false = bo q := by
  rcases q with _ | _ | q
  · rfl
  · rfl
  omega
theorem mvs4_pre (W H : Nat) (f : Bool) (t x : Nat) {n : Nat} : ∀ {m : Nat}, n ≤ m → mvs4 W H f t x n <+: mvs4 W H f t x m
  | 0, h => by obtain rfl : n = 0 := by omega
               exact List.prefix_refl _
  | m + 1, h => by
    by_cases e : n = m + 1
    · subst e; exact List.prefix_refl _
    rw [mvs4]; exact (mvs4_pre W H f t x (show n ≤ m by omega)).trans (List.prefix_append _ _)
theorem mvs3_pre (W H : Nat) (f : Bool) (t : Nat) {n : Nat} : ∀ {m : Nat}, n ≤ m → mvs3 W H f t n <+: mvs3 W H f t m
  | 0, h => by obtain rfl : n = 0 := by omega
               exact List.prefix_refl _
  | m + 1, h => by
    by_cases e : n = m + 1
    · subst e; exact List.prefix_refl _
    rw [mvs3]; exact (mvs3_pre W H f t (show n ≤ m by omega)).trans (List.prefix_append _ _)
theorem mvs2_pre (W H : Nat) (f : Bool) {n : Nat} : ∀ {m : Nat}, n ≤ m → mvs2 W H f n <+: mvs2 W H f m
  | 0, h => by obtain rfl : n = 0 := by omega
               exact List.prefix_refl _
  | m + 1, h => by
    by_cases e : n = m + 1
    · subst e; exact List.prefix_refl _
    rw [mvs2]; exact (mvs2_pre W H f (show n ≤ m by omega)).trans (List.prefix_append _ _)
theorem mvs1_pre (W H : Nat) {n : Nat} : ∀ {m : Nat}, n ≤ m → mvs1 W H n <+: mvs1 W H m
  | 0, h => by obtain rfl : n = 0 := by omega
               exact List.prefix_refl _
  | m + 1, h => by
    by_cases e : n = m + 1
    · subst e; exact List.prefix_refl _
    rw [mvs1]; exact (mvs1_pre W H (show n ≤ m by omega)).trans (List.prefix_append _ _)
theorem mvs_pre {W H q t i j : Nat} (hq : q < 2) (ht : t < 4) (hi : i < W) (hj : j ≤ H) : mvs1 W H q ++ mvs2 W H (bo q) t ++ mvs3 W H (bo q) t i ++ mvs4 W H (bo q) t i j <+: mvs1 W H 2 := by
  refine List.IsPrefix.trans ?_ (mvs1_pre W H (show q + 1 ≤ 2 by omega))
  rw [mvs1, List.append_assoc, List.append_assoc]
  refine (List.prefix_append_right_inj _).2 ?_
  refine List.IsPrefix.trans ?_ (mvs2_pre W H (bo q) (show t + 1 ≤ 4 by omega))
  rw [mvs2]
  refine (List.prefix_append_right_inj _).2 ?_
  refine List.IsPrefix.trans ?_ (mvs3_pre W H (bo q) t (show i + 1 ≤ W by omega))
  rw [mvs3]
  exact (List.prefix_append_right_inj _).2 (mvs4_pre W H (bo q) t i hj)
set_option maxRecDepth 100000 in
set_option maxHeartbeats 1000000 in
theorem all1_got (n l bz : Nat) (hn : 1 ≤ n) (Wn Hn : Nat) (hWn : 1 ≤ Wn ∧ Wn ≤ 8) (hHn : 1 ≤ Hn ∧ Hn ≤ 8) (J Jx : List Mv → World → Prop) (B : Nat) (hJ : AbidesFrom B J)
    (hY : ∀ pre x W1, J pre W1 → pre.length < 512 → YieldAt Fence.wide (n - 1) Try.prog l #[mvV x] W1 fun e W' => (e = .returned (.bool true) ∧ J (pre ++ [x]) W' ∧ KpM W1 W') ∨ (e = .returned (.bool false) ∧ Jx (pre ++ [x]) W'))
    (w : World) (hz : Blk w bz 84 [.int .i64 ((Wn : Nat) : Int), .int .i64 ((Hn : Nat) : Int)]) (h0 : J [] w) :
    Calls Try.prog 88 #[.func (.yield l) #[] #[], .pointer (some ⟨bz, 0, none⟩)] w fun e w' => (∃ v, e = .returned v) ∧ ((∃ xs, xs = mvs1 Wn Hn 2 ∧ J xs w') ∨ ∃ pre, pre <+: mvs1 Wn Hn 2 ∧ Jx pre w') := by
  have HJ := Hd.mk hJ
  have HY := Hd.mk hY
  have HE : Hd (Env w [⟨bz, 84, [.int .i64 ((Wn : Nat) : Int), .int .i64 ((Hn : Nat) : Int)]⟩]) := ⟨hz, (fun e' he => by cases he), trivial⟩
  have HB : Hd (Below w.heap.size w w) := ⟨Below.refl _ _⟩
  obtain ⟨bm, HM⟩ : ∃ bm, Hd (JW J [] bm w) := ⟨_, ⟨JW.new h0 (Nat.lt_of_le_of_lt (Nat.zero_le _) hz.lt)⟩⟩
  clear hJ hY hz h0
  go_enter Try.func88, Try.ntmps88
  go_upto_region 0 with fail
  refine wp_region_vd 3 [9, 10, 11] [2] [] 84 [.int .i64 0, .int .i64 0] [isBs w.heap.size [false, true], isV (.int .i64 2), isV (.int .i64 0)] (by rfl) alloc_Z ?_ ?_
  · intro qi qh qA aa wx hb hs hd
    match qi, qh, qA with
    | 0, _, _ => exact .inl ⟨rfl, op_litB rfl rfl w.heap.size hb.size⟩
    | 1, _, _ => exact .inl ⟨rfl, wp_b (int_eq (show ((([false, true] : List Bool).length : Nat) : Int) = 2 from rfl)) (op_lenBL (bs := [false, true]) rfl rfl (hd 0 rfl))⟩
    | 2, _, _ => exact .inl ⟨rfl, op_mv rfl rfl⟩
    | qi + 3, h, _ => omega
  intro vs X1 hb hv hal hne
  have HL0 := Hd.mk (HE.out.lt)
  have HBW := HB
  replace HB := Hd.mk (bel_then HB.out hb)
  replace HE := Hd.mk (HE.out.to hb)
  have HML := Hd.mk HM.out.lt
  replace HM := Hd.mk (HM.out.to hb)
  obtain ⟨g9, e9, l9, rest9, b9⟩ : ∃ g, vs 9 = .slice (some ⟨g, 0, none⟩) 2 2 ∧ w.heap.size ≤ g ∧ ∃ rest, Blk X1 g 4 (bools [false, true] ++ rest) := hv 0 (by decide) rfl
  replace HE : Hd (Env X1 [⟨bz, 84, [.int .i64 (((Wn : Nat) : Int)), .int .i64 (((Hn : Nat) : Int))]⟩, ⟨g9, 4, bools [false, true] ++ rest9⟩]) := ⟨Env.addne (e := ⟨g9, 4, bools [false, true] ++ rest9⟩) HE.out b9 (fun e' he => Nat.ne_of_lt (Nat.lt_of_lt_of_le (HL0.out e' he) l9))⟩
  have G9 : Hd (w.heap.size ≤ g9) := ⟨Nat.le_trans HBW.out.size l9⟩
  have e10 : vs 10 = .int .i64 2 := hv 1 (by decide) rfl
  have e11 : vs 11 = .int .i64 0 := hv 2 (by decide) rfl
  simp only [PA, e9, e10, e11]
  clear hv hal hne hb HL0 HBW e9 e10 e11 l9 b9 HML
  have HJ0 := HM.out.get HJ.out
  go_wp2_with fail
  go_loopw [11] (fun s11 wr => ∃ q : Nat, q ≤ 2 ∧ s11 = .int .i64 q ∧ J (mvs1 Wn Hn q) wr ∧ Env wr [⟨bz, 84, [.int .i64 (((Wn : Nat) : Int)), .int .i64 (((Hn : Nat) : Int))]⟩, ⟨g9, 4, bools [false, true] ++ rest9⟩]) (fun s11 _ => 2 - (intOf s11).toNat)
  case atStart => exact ⟨0, Nat.zero_le _, rfl, by simpa only [mvs1, List.append_nil, List.nil_append] using HJ0, Env.front (L := [⟨bz, 84, [.int .i64 (((Wn : Nat) : Int)), .int .i64 (((Hn : Nat) : Int))]⟩, ⟨g9, 4, bools [false, true] ++ rest9⟩]) HE.out⟩
  case round =>
    obtain ⟨q, hql, rfl, hj, he⟩ := hrel
    clear HB HE HJ0 HM
    generalize wr = w at *
    have HB : Hd (Below w.heap.size w w) := ⟨Below.refl _ _⟩
    have HE : Hd (Env w [⟨bz, 84, [.int .i64 (((Wn : Nat) : Int)), .int .i64 (((Hn : Nat) : Int))]⟩, ⟨g9, 4, bools [false, true] ++ rest9⟩]) := ⟨he⟩
    obtain ⟨bm, HM⟩ : ∃ bm, Hd (JW J (mvs1 Wn Hn q) bm w) := ⟨_, ⟨JW.new hj (Nat.lt_of_le_of_lt (Nat.zero_le _) (HE.out.get 0 rfl).lt)⟩⟩
    clear hj he
    by_cases hq : q < 2
    · skip
      go_upto_region 2 with fail
      try generalize Value.bool (decide (((q : Nat) : Int) < 2)) = zz2
      refine wp_region_vd 2 [13, 14] [] [] 84 [.int .i64 0, .int .i64 0] [isV (.pointer (some ⟨g9, (((q : Nat) : Int)).toNat, none⟩)), isV (.bool (bo q))] (by rfl) alloc_Z ?_ ?_
      · intro qi qh qA aa wx hb hs hd
        match qi, qh, qA with
        | 0, _, _ => exact .inl ⟨rfl, op_run rfl (op_idxB (by omega) (by omega) rfl (hs 9 rfl) (hs 11 rfl) _) rfl⟩
        | 1, _, _ => exact .inl ⟨rfl, wp_b (bool_eq (bo_at hq)) (op_ldB rfl rfl (hd 0 rfl) (BB.cell ⟨_, (HE.out.to hb).get 1 rfl⟩ (by show _ < 2; omega)))⟩
        | qi + 2, h, _ => omega
      intro vs X1 hb hv hal hne
      replace HB := Hd.mk (bel_then HB.out hb)
      replace HE := Hd.mk (HE.out.to hb)
      have HML := Hd.mk HM.out.lt
      replace HM := Hd.mk (HM.out.to hb)
      have e14 : vs 14 = .bool (bo q) := hv 1 (by decide) rfl
      simp only [PA, e14]
      clear hv hal hne hb e14 HML
      go_upto_region 3 with fail
      refine wp_region_vd 1 [15] [0] [] 84 [.int .i64 0, .int .i64 0] [isV (.int .i64 0)] (by rfl) alloc_Z ?_ ?_
      · intro qi qh qA aa wx hb hs hd
        match qi, qh, qA with
        | 0, _, _ => exact .inl ⟨rfl, op_mv rfl rfl⟩
        | qi + 1, h, _ => omega
      intro vs X2 hb hv hal hne
      replace HB := Hd.mk (bel_then HB.out hb)
      replace HE := Hd.mk (HE.out.to hb)
      have HML := Hd.mk HM.out.lt
      replace HM := Hd.mk (HM.out.to hb)
      have e15 : vs 15 = .int .i64 0 := hv 0 (by decide) rfl
      simp only [PA, e15]
      clear hv hal hne hb e15 HML
      have HJ0 := HM.out.get HJ.out
      go_wp2_with fail
      go_loopw [15] (fun s15 wr => ∃ t : Nat, t ≤ 4 ∧ s15 = .int .i64 t ∧ J (mvs1 Wn Hn q ++ mvs2 Wn Hn (bo q) t) wr ∧ Env wr [⟨bz, 84, [.int .i64 (((Wn : Nat) : Int)), .int .i64 (((Hn : Nat) : Int))]⟩, ⟨g9, 4, bools [false, true] ++ rest9⟩]) (fun s15 _ => 4 - (intOf s15).toNat)
      case atStart => exact ⟨0, Nat.zero_le _, rfl, by simpa only [mvs2, List.append_nil, List.nil_append] using HJ0, Env.front (L := [⟨bz, 84, [.int .i64 (((Wn : Nat) : Int)), .int .i64 (((Hn : Nat) : Int))]⟩, ⟨g9, 4, bools [false, true] ++ rest9⟩]) HE.out⟩
      case round =>
        obtain ⟨t, htl, rfl, hj, he⟩ := hrel
        clear HB HE HJ0 HM
        generalize wr = w at *
        have HB : Hd (Below w.heap.size w w) := ⟨Below.refl _ _⟩
        have HE : Hd (Env w [⟨bz, 84, [.int .i64 (((Wn : Nat) : Int)), .int .i64 (((Hn : Nat) : Int))]⟩, ⟨g9, 4, bools [false, true] ++ rest9⟩]) := ⟨he⟩
        obtain ⟨bm, HM⟩ : ∃ bm, Hd (JW J (mvs1 Wn Hn q ++ mvs2 Wn Hn (bo q) t) bm w) := ⟨_, ⟨JW.new hj (Nat.lt_of_le_of_lt (Nat.zero_le _) (HE.out.get 0 rfl).lt)⟩⟩
        clear hj he
        by_cases ht : t < 4
        · skip
          go_upto_region 5 with fail
          try generalize Value.bool (decide (((t : Nat) : Int) < 4)) = zz5
          refine wp_region_vd 1 [17] [0] [] 84 [.int .i64 0, .int .i64 0] [isV (.int .i64 (((t : Nat) : Int)))] (by rfl) alloc_Z ?_ ?_
          · intro qi qh qA aa wx hb hs hd
            match qi, qh, qA with
            | 0, _, _ => exact .inl ⟨rfl, op_mv rfl (hs 15 rfl)⟩
            | qi + 1, h, _ => omega
          intro vs X1 hb hv hal hne
          replace HB := Hd.mk (bel_then HB.out hb)
          replace HE := Hd.mk (HE.out.to hb)
          have HML := Hd.mk HM.out.lt
          replace HM := Hd.mk (HM.out.to hb)
          have e17 : vs 17 = .int .i64 (((t : Nat) : Int)) := hv 0 (by decide) rfl
          simp only [PA, e17]
          clear hv hal hne hb e17 HML
          go_upto_region 6 with fail
          refine wp_region_vd 3 [18, 19, 20] [0, 2] [] 84 [.int .i64 0, .int .i64 0] [isV (.pointer (some ⟨bz, 0, none⟩)), isV (.int .i64 (((Wn : Nat) : Int))), isV (.int .i64 0)] (by rfl) alloc_Z ?_ ?_
          · intro qi qh qA aa wx hb hs hd
            match qi, qh, qA with
            | 0, _, _ => exact .inl ⟨rfl, ⟨_, op_faZ0 rfl (hs 1 rfl), rfl⟩⟩
            | 1, _, _ => exact .inl ⟨rfl, op_ldI rfl rfl (hd 0 rfl) ((HE.out.to hb).cell 0 0 rfl rfl)⟩
            | 2, _, _ => exact .inl ⟨rfl, op_mv rfl rfl⟩
            | qi + 3, h, _ => omega
          intro vs X2 hb hv hal hne
          replace HB := Hd.mk (bel_then HB.out hb)
          replace HE := Hd.mk (HE.out.to hb)
          have HML := Hd.mk HM.out.lt
          replace HM := Hd.mk (HM.out.to hb)
          have e19 : vs 19 = .int .i64 (((Wn : Nat) : Int)) := hv 1 (by decide) rfl
          have e20 : vs 20 = .int .i64 0 := hv 2 (by decide) rfl
          simp only [PA, e19, e20]
          clear hv hal hne hb e19 e20 HML
          have HJ0 := HM.out.get HJ.out
          go_wp2_with fail
          go_loopw [20] (fun s20 wr => ∃ i : Nat, i ≤ Wn ∧ s20 = .int .i64 i ∧ J (mvs1 Wn Hn q ++ mvs2 Wn Hn (bo q) t ++ mvs3 Wn Hn (bo q) t i) wr ∧ Env wr [⟨bz, 84, [.int .i64 (((Wn : Nat) : Int)), .int .i64 (((Hn : Nat) : Int))]⟩, ⟨g9, 4, bools [false, true] ++ rest9⟩]) (fun s20 _ => Wn - (intOf s20).toNat)
          case atStart => exact ⟨0, Nat.zero_le _, rfl, by simpa only [mvs3, List.append_nil, List.nil_append] using HJ0, Env.front (L := [⟨bz, 84, [.int .i64 (((Wn : Nat) : Int)), .int .i64 (((Hn : Nat) : Int))]⟩, ⟨g9, 4, bools [false, true] ++ rest9⟩]) HE.out⟩
          case round =>
            obtain ⟨i, hil, rfl, hj, he⟩ := hrel
            clear HB HE HJ0 HM
            generalize wr = w at *
            have HB : Hd (Below w.heap.size w w) := ⟨Below.refl _ _⟩
            have HE : Hd (Env w [⟨bz, 84, [.int .i64 (((Wn : Nat) : Int)), .int .i64 (((Hn : Nat) : Int))]⟩, ⟨g9, 4, bools [false, true] ++ rest9⟩]) := ⟨he⟩
            obtain ⟨bm, HM⟩ : ∃ bm, Hd (JW J (mvs1 Wn Hn q ++ mvs2 Wn Hn (bo q) t ++ mvs3 Wn Hn (bo q) t i) bm w) := ⟨_, ⟨JW.new hj (Nat.lt_of_le_of_lt (Nat.zero_le _) (HE.out.get 0 rfl).lt)⟩⟩
            clear hj he
            by_cases hi : i < Wn
            · skip
              go_upto_region 8 with fail
              try generalize Value.bool (decide (((i : Nat) : Int) < (Wn : Int))) = zz8
              refine wp_region_vd 1 [22] [0] [] 84 [.int .i64 0, .int .i64 0] [isV (.int .i64 (((i : Nat) : Int)))] (by rfl) alloc_Z ?_ ?_
              · intro qi qh qA aa wx hb hs hd
                match qi, qh, qA with
                | 0, _, _ => exact .inl ⟨rfl, op_mv rfl (hs 20 rfl)⟩
                | qi + 1, h, _ => omega
              intro vs X1 hb hv hal hne
              replace HB := Hd.mk (bel_then HB.out hb)
              replace HE := Hd.mk (HE.out.to hb)
              have HML := Hd.mk HM.out.lt
              replace HM := Hd.mk (HM.out.to hb)
              have e22 : vs 22 = .int .i64 (((i : Nat) : Int)) := hv 0 (by decide) rfl
              simp only [PA, e22]
              clear hv hal hne hb e22 HML
              go_upto_region 9 with fail
              refine wp_region_vd 3 [23, 24, 25] [0, 2] [] 84 [.int .i64 0, .int .i64 0] [isV (.pointer (some ⟨bz, 1, none⟩)), isV (.int .i64 (((Hn : Nat) : Int))), isV (.int .i64 0)] (by rfl) alloc_Z ?_ ?_
              · intro qi qh qA aa wx hb hs hd
                match qi, qh, qA with
                | 0, _, _ => exact .inl ⟨rfl, ⟨_, op_faZ1 rfl (hs 1 rfl), rfl⟩⟩
                | 1, _, _ => exact .inl ⟨rfl, op_ldI rfl rfl (hd 0 rfl) ((HE.out.to hb).cell 0 1 rfl rfl)⟩
                | 2, _, _ => exact .inl ⟨rfl, op_mv rfl rfl⟩
                | qi + 3, h, _ => omega
              intro vs X2 hb hv hal hne
              replace HB := Hd.mk (bel_then HB.out hb)
              replace HE := Hd.mk (HE.out.to hb)
              have HML := Hd.mk HM.out.lt
              replace HM := Hd.mk (HM.out.to hb)
              have e24 : vs 24 = .int .i64 (((Hn : Nat) : Int)) := hv 1 (by decide) rfl
              have e25 : vs 25 = .int .i64 0 := hv 2 (by decide) rfl
              simp only [PA, e24, e25]
              clear hv hal hne hb e24 e25 HML
              have HJ0 := HM.out.get HJ.out
              go_wp2_with fail
              go_loopw [25] (fun s25 wr => ∃ j : Nat, j ≤ Hn ∧ s25 = .int .i64 j ∧ J (mvs1 Wn Hn q ++ mvs2 Wn Hn (bo q) t ++ mvs3 Wn Hn (bo q) t i ++ mvs4 Wn Hn (bo q) t i j) wr ∧ Env wr [⟨bz, 84, [.int .i64 (((Wn : Nat) : Int)), .int .i64 (((Hn : Nat) : Int))]⟩, ⟨g9, 4, bools [false, true] ++ rest9⟩]) (fun s25 _ => Hn - (intOf s25).toNat)
              case atStart => exact ⟨0, Nat.zero_le _, rfl, by simpa only [mvs4, List.append_nil, List.nil_append] using HJ0, Env.front (L := [⟨bz, 84, [.int .i64 (((Wn : Nat) : Int)), .int .i64 (((Hn : Nat) : Int))]⟩, ⟨g9, 4, bools [false, true] ++ rest9⟩]) HE.out⟩
              case round =>
                obtain ⟨j, hjl, rfl, hj, he⟩ := hrel
                clear HB HE HJ0 HM
                generalize wr = w at *
                have HB : Hd (Below w.heap.size w w) := ⟨Below.refl _ _⟩
                have HE : Hd (Env w [⟨bz, 84, [.int .i64 (((Wn : Nat) : Int)), .int .i64 (((Hn : Nat) : Int))]⟩, ⟨g9, 4, bools [false, true] ++ rest9⟩]) := ⟨he⟩
                obtain ⟨bm, HM⟩ : ∃ bm, Hd (JW J (mvs1 Wn Hn q ++ mvs2 Wn Hn (bo q) t ++ mvs3 Wn Hn (bo q) t i ++ mvs4 Wn Hn (bo q) t i j) bm w) := ⟨_, ⟨JW.new hj (Nat.lt_of_le_of_lt (Nat.zero_le _) (HE.out.get 0 rfl).lt)⟩⟩
                clear hj he
                by_cases hj : j < Hn
                · skip
                  go_upto_region 11 with fail
                  try generalize Value.bool (decide (((j : Nat) : Int) < (Hn : Int))) = zz11
                  refine wp_region_vd 1 [27] [0] [] 84 [.int .i64 0, .int .i64 0] [isV (.int .i64 (((j : Nat) : Int)))] (by rfl) alloc_Z ?_ ?_
                  · intro qi qh qA aa wx hb hs hd
                    match qi, qh, qA with
                    | 0, _, _ => exact .inl ⟨rfl, op_mv rfl (hs 25 rfl)⟩
                    | qi + 1, h, _ => omega
                  intro vs X1 hb hv hal hne
                  replace HB := Hd.mk (bel_then HB.out hb)
                  replace HE := Hd.mk (HE.out.to hb)
                  have HML := Hd.mk HM.out.lt
                  replace HM := Hd.mk (HM.out.to hb)
                  have e27 : vs 27 = .int .i64 (((j : Nat) : Int)) := hv 0 (by decide) rfl
                  simp only [PA, e27]
                  clear hv hal hne hb e27 HML
                  go_upto_region 12 with fail
                  refine wp_region_vd 6 [28, 29, 30, 31, 32, 8] [0, 1, 2, 3, 4] [5] 31 [.int .i64 0, .int .i64 0, .int .i64 0, .bool false] [isV (.int .i64 (((i : Nat) : Int))), isV (.int .i64 (((j : Nat) : Int))), isV (.int .i64 (((t : Nat) : Int))), isV (.bool (bo q)), isV (.agg #[.int .i64 (((i : Nat) : Int)), .int .i64 (((j : Nat) : Int)), .int .i64 (((t : Nat) : Int)), .bool (bo q)]), SP.any] (by rfl) alloc_M ?_ ?_
                  · intro qi qh qA aa wx hb hs hd
                    match qi, qh, qA with
                    | 0, _, _ => exact .inl ⟨rfl, op_mv rfl (hs 6 rfl)⟩
                    | 1, _, _ => exact .inl ⟨rfl, op_mv rfl (hs 7 rfl)⟩
                    | 2, _, _ => exact .inl ⟨rfl, op_mv rfl (hs 5 rfl)⟩
                    | 3, _, _ => exact .inl ⟨rfl, op_mv rfl (hs 4 rfl)⟩
                    | 4, _, _ => exact .inl ⟨rfl, ⟨_, op_buM rfl (hd 0 rfl) (hd 1 rfl) (hd 2 rfl) (hd 3 rfl), rfl⟩⟩
                    | 5, _, h => cases h
                    | qi + 6, h, _ => omega
                  intro vs X2 hb hv hal hne
                  have HL0 := Hd.mk (HE.out.lt)
                  have HBW := HB
                  replace HB := Hd.mk (bel_then HB.out hb)
                  replace HE := Hd.mk (HE.out.to hb)
                  have HML := Hd.mk HM.out.lt
                  replace HM := Hd.mk (HM.out.to hb)
                  have e32 : vs 32 = .agg #[.int .i64 (((i : Nat) : Int)), .int .i64 (((j : Nat) : Int)), .int .i64 (((t : Nat) : Int)), .bool (bo q)] := hv 4 (by decide) rfl
                  obtain ⟨g8, e8, l8, b8⟩ : ∃ g, vs 8 = .pointer (some ⟨g, 0, none⟩) ∧ _ := hal 5 rfl
                  replace HE : Hd (Env X2 [⟨bz, 84, [.int .i64 (((Wn : Nat) : Int)), .int .i64 (((Hn : Nat) : Int))]⟩, ⟨g9, 4, bools [false, true] ++ rest9⟩, ⟨g8, 31, [.int .i64 0, .int .i64 0, .int .i64 0, .bool false]⟩]) := ⟨Env.addne (e := ⟨g8, 31, [.int .i64 0, .int .i64 0, .int .i64 0, .bool false]⟩) HE.out b8 (fun e' he => Nat.ne_of_lt (Nat.lt_of_lt_of_le (HL0.out e' he) l8))⟩
                  have HMG8 : Hd (bm < g8) := ⟨Nat.lt_of_lt_of_le HML.out l8⟩
                  have G8 : Hd (w.heap.size ≤ g8) := ⟨Nat.le_trans HBW.out.size l8⟩
                  simp only [PA, e32, e8]
                  clear hv hal hne hb HL0 HBW e32 e8 l8 b8 HML
                  refine wpList_st rfl rfl rfl rfl rfl (sto_M (HE.out.get 2 rfl)) ?_
                  have HE' : Env (putL X2 g8 0 [.int .i64 (((i : Nat) : Int)), .int .i64 (((j : Nat) : Int)), .int .i64 (((t : Nat) : Int)), .bool (bo q)]) [⟨bz, 84, [.int .i64 (((Wn : Nat) : Int)), .int .i64 (((Hn : Nat) : Int))]⟩, ⟨g9, 4, bools [false, true] ++ rest9⟩, ⟨g8, 31, [.int .i64 (((i : Nat) : Int)), .int .i64 (((j : Nat) : Int)), .int .i64 (((t : Nat) : Int)), .bool (bo q)]⟩] := HE.out.putF 2 rfl rfl
                  have HB' := putL_below (show w.heap.size ≤ g8 from G8.out) [.int .i64 (((i : Nat) : Int)), .int .i64 (((j : Nat) : Int)), .int .i64 (((t : Nat) : Int)), .bool (bo q)] _ 0 HB.out
                  replace HM := Hd.mk (HM.out.put (vs := [.int .i64 (((i : Nat) : Int)), .int .i64 (((j : Nat) : Int)), .int .i64 (((t : Nat) : Int)), .bool (bo q)]) (o := 0) HMG8.out)
                  generalize putL X2 g8 0 [.int .i64 (((i : Nat) : Int)), .int .i64 (((j : Nat) : Int)), .int .i64 (((t : Nat) : Int)), .bool (bo q)] = X3 at *
                  replace HE := Hd.mk HE'
                  replace HB := Hd.mk HB'
                  clear HE' HB'
                  have HLN : (mvs1 Wn Hn q ++ mvs2 Wn Hn (bo q) t ++ mvs3 Wn Hn (bo q) t i ++ mvs4 Wn Hn (bo q) t i j).length < 512 := by
                    have l1 := len1 Wn Hn hWn.2 hHn.2 q
                    have l2 := len2 Wn Hn hWn.2 hHn.2 (bo q) t
                    have l3 := len3 Wn Hn hHn.2 (bo q) t i
                    have l4 := len4 Wn Hn (bo q) t i j
                    simp only [List.length_append]
                    omega
                  have cz0 := HE.out.cell 0 0 rfl rfl
                  have cz1 := HE.out.cell 0 1 rfl rfl
                  have cm0 := HE.out.cell 2 0 rfl rfl
                  have cm1 := HE.out.cell 2 1 rfl rfl
                  have cm2 := HE.out.cell 2 2 rfl rfl
                  have cm3 := HE.out.cell 2 3 rfl rfl
                  have HAL := allows_got ((Wn : Nat) : Int) ((Hn : Nat) : Int) ((i : Nat) : Int) ((j : Nat) : Int) ((t : Nat) : Int) (bo q) X3
                  by_cases ha : alB Wn Hn i j t = true
                  · rw [ha] at HAL
                    go_upto_region 13 with fail
                    refine (wpIn_wide (n := n)).1 ?_
                    gi_wp2_with (first | (refine ⟨trivial, ?_⟩; gi_at_call 51; refine (callsIn_wide.2 HAL).mono ?_; rintro e w9 ⟨v9, rfl, hb9, rfl⟩; have HE9 := HE.out.to hb9; have HJ9 := (HM.out.to hb9).get HJ.out; have dm0 := HE9.cell 2 0 rfl rfl; have dm1 := HE9.cell 2 1 rfl rfl; have dm2 := HE9.cell 2 2 rfl rfl; have dm3 := HE9.cell 2 3 rfl rfl; obtain ⟨fn, tmps, assign, body, hy, hR⟩ := HY.out _ ⟨i, j, t, bo q⟩ w9 HJ9 HLN; dsimp only [mvV] at hy) | fail)
                    refine hR.mono ?_
                    rintro e W3 (⟨rfl, hj3, hk3⟩ | ⟨rfl, hx3⟩)
                    · have HE3 := hk3.env (Env.front (L := [⟨bz, 84, [.int .i64 (((Wn : Nat) : Int)), .int .i64 (((Hn : Nat) : Int))]⟩, ⟨g9, 4, bools [false, true] ++ rest9⟩]) HE9) (by intro e he; rcases List.mem_cons.1 he with rfl | he; exact ⟨show 84 ≠ 31 from by decide, show 84 ≠ 54 from by decide⟩; rcases List.mem_singleton.1 he with rfl; exact ⟨show 4 ≠ 31 from by decide, show 4 ≠ 54 from by decide⟩)
                      have HJ3 : J (mvs1 Wn Hn q ++ mvs2 Wn Hn (bo q) t ++ mvs3 Wn Hn (bo q) t i ++ mvs4 Wn Hn (bo q) t i (j + 1)) W3 := by
                        rw [show mvs4 Wn Hn (bo q) t i (j + 1) = mvs4 Wn Hn (bo q) t i j ++ [⟨i, j, t, bo q⟩] from by rw [mvs4, if_pos ha], ← List.append_assoc]
                        exact hj3
                      gi_wp2
                      go_wp2_with fail
                      go_roundw
                      case rel => exact ⟨j + 1, by omega, by go_num, HJ3, HE3⟩
                      case measure => simp [intOf]; omega
                    gi_wp2
                    go_wp2_with fail
                    refine bodyPost_ret (results_none rfl _ _ _) rfl ?_
                    refine ⟨⟨_, rfl⟩, .inr ⟨_, ?_, hx3⟩⟩
                    have h := mvs_pre hq ht hi (show j + 1 ≤ Hn by omega)
                    rw [mvs4, if_pos ha, ← List.append_assoc] at h
                    exact h
                  have ha' : alB Wn Hn i j t = false := by simpa using ha
                  rw [ha'] at HAL
                  go_upto_region 13 with fail
                  refine (wpIn_wide (n := n)).1 ?_
                  gi_wp2_with (first | (refine ⟨trivial, ?_⟩; gi_at_call 51; refine (callsIn_wide.2 HAL).mono ?_; rintro e w9 ⟨v9, rfl, hb9, rfl⟩; have HE9 := HE.out.to hb9; have HJ9 := (HM.out.to hb9).get HJ.out) | fail)
                  have HJ3 : J (mvs1 Wn Hn q ++ mvs2 Wn Hn (bo q) t ++ mvs3 Wn Hn (bo q) t i ++ mvs4 Wn Hn (bo q) t i (j + 1)) w9 := by
                    rw [show mvs4 Wn Hn (bo q) t i (j + 1) = mvs4 Wn Hn (bo q) t i j from by rw [mvs4, if_neg ha, List.append_nil]]
                    exact HJ9
                  refine ⟨fun _ h => (by cases h), ?_⟩
                  gi_wp2
                  go_wp2_with fail
                  go_roundw
                  case rel => exact ⟨j + 1, by omega, by go_num, HJ3, Env.front (L := [⟨bz, 84, [.int .i64 (((Wn : Nat) : Int)), .int .i64 (((Hn : Nat) : Int))]⟩, ⟨g9, 4, bools [false, true] ++ rest9⟩]) HE9⟩
                  case measure => simp [intOf]; omega
                have e1 : j = Hn := by omega
                have HJ1 : J (mvs1 Wn Hn q ++ mvs2 Wn Hn (bo q) t ++ mvs3 Wn Hn (bo q) t (i + 1)) w := by
                  have h := HM.out.get HJ.out
                  rw [e1] at h
                  rw [mvs3, ← List.append_assoc]
                  exact h
                go_wp2_with fail
                go_roundw
                case rel => exact ⟨i + 1, by omega, by go_num, HJ1, HE.out⟩
                case measure => simp [intOf]; omega
            have e1 : i = Wn := by omega
            have HJ1 : J (mvs1 Wn Hn q ++ mvs2 Wn Hn (bo q) (t + 1)) w := by
              have h := HM.out.get HJ.out
              rw [e1] at h
              rw [mvs2, ← List.append_assoc]
              exact h
            go_wp2_with fail
            go_roundw
            case rel => exact ⟨t + 1, by omega, by go_num, HJ1, HE.out⟩
            case measure => simp [intOf]; omega
        have e1 : t = 4 := by omega
        have HJ1 : J (mvs1 Wn Hn (q + 1)) w := by
          have h := HM.out.get HJ.out
          rw [e1] at h
          rw [mvs1]
          exact h
        go_wp2_with fail
        go_roundw
        case rel => exact ⟨q + 1, by omega, by go_num, HJ1, HE.out⟩
        case measure => simp [intOf]; omega
    have e1 : q = 2 := by omega
    go_wp2_with fail
    go_end0
    exact ⟨⟨_, rfl⟩, .inl ⟨_, rfl, by rw [← e1]; exact HM.out.get HJ.out⟩⟩
end Go.Proofs.Ytddbmckbankmeaa
set_option linter.unusedVariables false
set_option linter.unusedSimpArgs false
namespace Go.Proofs.Ytddbmckbankmeaa
open Go.RowKit Go.Shelf
attribute [local go_sem] Oper.semAt_some
def isAl (lo Wn Hn : Nat) : SP := ⟨fun v w => ∃ b, v = .func (.func 88) #[] #[.pointer (some ⟨b, 0, none⟩)] ∧ lo ≤ b ∧ Blk w b 84 [.int .i64 ((Wn : Nat) : Int), .int .i64 ((Hn : Nat) : Int)], fun v w w' ⟨b, h1, h2, h3⟩ hb => ⟨b, h1, h2, h3.to hb⟩⟩
theorem got_al {f lo lo' : Nat} {vs : Array Value} {w : World} {Wn Hn : Nat} (h : lo ≤ lo') (hc : Calls Try.prog f vs w (Got w (isAl lo' Wn Hn).p)) : Calls Try.prog f vs w (Got w (isAl lo Wn Hn).p) :=
  hc.mono fun e w' ⟨v, h1, h2, b, h3, h4, h5⟩ => ⟨v, h1, h2, b, h3, Nat.le_trans h h4, h5⟩
theorem alloc_Q (w : World) : (Instr.alloc 54 true (.tuple #[])).run Try.prog w = .ok (.pointer (some ⟨w.heap.size, 0, none⟩)) (w.alloc (.cells [Value.slice none 0 0].toArray 54)) := by simp [go_sem]
theorem Blk.not_row {W : World} {B : Nat} {t e : TypeId} {us : List Value} (h : Blk W B t us) (hte : t ≠ e) {base size k : Nat} {v : Value} {xs : List Value} (hr : W.ownsRow base e size v k xs) : some B ≠ v.ownBlock := by
  rcases hr.2 with ⟨rfl, _⟩ | ⟨g, cap, cur, rfl, _, hgb, _⟩
  · simp [Value.ownBlock]
  intro e'
  obtain rfl : B = g := by simpa [Value.ownBlock] using e'
  have := (show W.heap[B]? = _ from h).symm.trans hgb
  simp at this
  exact hte this.2
theorem Blk.kept {W W' : World} {row : Option Nat} {B : Nat} {t : TypeId} {us : List Value} (h : Blk W B t us) (hg : W.grownBy W' row) (hne : some B ≠ row) : Blk W' B t us := (hg.block B h.lt hne).trans h
theorem Blk.own {W W' : World} {row : Option Nat} {B : Nat} {t : TypeId} {us : List Value} (h : Blk W B t us) (hg : W.grownBy W' row) (hr : ∀ r, row = some r → ∃ o : Obj, W.heap[r]? = some o ∧ o.isCells = false) : Blk W' B t us := h.kept hg fun e => by
  obtain ⟨o, ho, hc⟩ := hr B e.symm
  rw [show W.heap[B]? = _ from h] at ho
  cases ho
  cases hc
theorem KpM.of_below {W W' : World} (h : Below W.heap.size W W') : KpM W W' := ⟨h.size, fun g t us _ _ hb => hb.to h⟩
theorem KpM.obj {w : World} (W : World) (l : Nat) (o o' : Obj) (_ : w.heap.size ≤ l) (h : W.heap[l]? = some o) (hc : o.isCells = false) (_ : o.isWalk = false) : KpM W (W.putObj l o') :=
  ⟨(grownBy_putObj' W l o').size, fun g t us _ _ hb => hb.kept (grownBy_putObj' W l o') (fun e => by
    obtain rfl : g = l := by simpa using e
    rw [show W.heap[g]? = _ from hb] at h
    cases h
    cases hc)⟩
theorem KpM.app {W w1 : World} {n₀ B k : Nat} {v v' : Value} {xs : List Value} {tmp : Obj} (hv : Boxed w1 B 54 v) (hrow : W.ownsRow n₀ 31 4 v k xs) (hgrow : (W.alloc tmp).grownBy w1 v.ownBlock) : KpM W (w1.setCell ⟨B, 0, none⟩ v') := by
  refine ⟨Nat.le_trans (Nat.le_trans (by simp) hgrow.size) (grownBy_setCell' w1 B v').size, fun g t us h1 h2 hb => ?_⟩
  have h3 : Blk (W.alloc tmp) g t us := hb.kept (World.grownBy_alloc W tmp none) (by simp)
  have h4 : Blk w1 g t us := h3.kept hgrow (h3.not_row h1 (hrow.alloc tmp))
  refine h4.kept (grownBy_setCell' w1 B v') fun e => ?_
  obtain rfl : g = B := by simpa using e
  have := (show w1.heap[g]? = _ from h4).symm.trans hv
  simp at this
  exact h2 this.2
set_option maxRecDepth 100000 in
set_option maxHeartbeats 1000000 in
theorem all_got (Wn Hn : Nat) (w : World) :
    Calls Try.prog 70 #[.agg #[.int .i64 (((Wn : Nat) : Int)), .int .i64 (((Hn : Nat) : Int))]] w (Got w (isAl w.heap.size Wn Hn).p) := by
  go_enter Try.func70, Try.ntmps70
  go_upto_region 1 with fail
  obtain ⟨W0, hW0⟩ : ∃ W : World, W = w.alloc (.cells #[.int .i64 (((Wn : Nat) : Int)), .int .i64 (((Hn : Nat) : Int))] 84) := ⟨_, rfl⟩
  rw [← hW0]
  obtain ⟨he, hb⟩ := env_one hW0
  have HE := Hd.mk he
  have HB := Hd.mk hb
  clear he hb hW0
  refine wp_region_vd 1 [3] [0] [] 84 [.int .i64 0, .int .i64 0] [isV (.func (.func 88) #[] #[.pointer (some ⟨w.heap.size, 0, none⟩)])] (by rfl) alloc_Z ?_ ?_
  · intro qi qh qA aa wx hb hs hd
    match qi, qh, qA with
    | 0, _, _ => exact .inl ⟨rfl, ⟨_, op_mkF1 rfl (hs 1 rfl), rfl⟩⟩
    | qi + 1, h, _ => omega
  intro vs X1 hb hv hal hne
  replace HB := Hd.mk (bel_then HB.out hb)
  replace HE := Hd.mk (HE.out.to hb)
  have e3 : vs 3 = .func (.func 88) #[] #[.pointer (some ⟨w.heap.size, 0, none⟩)] := hv 0 (by decide) rfl
  simp only [PA, e3]
  clear hv hal hne hb e3
  go_wp2_with fail
  go_ret
  exact ⟨_, rfl, HB.out, ⟨_, rfl, Nat.le_refl _, HE.out.get 0 rfl⟩⟩
set_option maxRecDepth 100000 in
set_option maxHeartbeats 1000000 in
theorem Moves_ok (Wn Hn : Nat) (w : World) (hs : sizeB Wn Hn = true) :
    Calls Try.prog 37 #[.int .i64 (((Wn : Nat) : Int)), .int .i64 (((Hn : Nat) : Int))] w (Got w (isP (isSs w.heap.size (mvs1 Wn Hn 2)) (isV (.int .i64 0))).p) := by
  have hwh := sizeB_bounds hs
  have HS := Hd.mk hs
  clear hs
  refine (callsIn_wide (n := 5)).1 ?_
  refine callsIn_of_wp_marks Try.func37 rfl trivial ?_ rfl
  refine wpIn_wide.2 ?_
  simp only [Try.ntmps37, List.size_toArray, List.length_cons, List.length_nil, Nat.reduceAdd, Nat.reduceSub, Array.replicate_succ, Array.replicate_zero, List.push_toArray, List.append_toArray, List.nil_append, List.cons_append]
  go_upto_region 1 with fail
  have HE : Hd (Env w []) := ⟨trivial⟩
  have HB : Hd (Below w.heap.size w w) := ⟨Below.refl _ _⟩
  refine wp_region_vd 4 [9, 10, 11, 6] [0, 1, 2] [3] 84 [.int .i64 0, .int .i64 0] [isV (.int .i64 (((Wn : Nat) : Int))), isV (.int .i64 (((Hn : Nat) : Int))), isV (.agg #[.int .i64 (((Wn : Nat) : Int)), .int .i64 (((Hn : Nat) : Int))]), SP.any] (by rfl) alloc_Z ?_ ?_
  · intro qi qh qA aa wx hb hs hd
    match qi, qh, qA with
    | 0, _, _ => exact .inl ⟨rfl, op_mv rfl (hs 0 rfl)⟩
    | 1, _, _ => exact .inl ⟨rfl, op_mv rfl (hs 1 rfl)⟩
    | 2, _, _ => exact .inl ⟨rfl, ⟨_, op_buZ rfl (hd 0 rfl) (hd 1 rfl), rfl⟩⟩
    | 3, _, h => cases h
    | qi + 4, h, _ => omega
  intro vs X1 hb hv hal hne
  have HL0 := Hd.mk (HE.out.lt)
  have HBW := HB
  replace HB := Hd.mk (bel_then HB.out hb)
  replace HE := Hd.mk (HE.out.to hb)
  have e11 : vs 11 = .agg #[.int .i64 (((Wn : Nat) : Int)), .int .i64 (((Hn : Nat) : Int))] := hv 2 (by decide) rfl
  obtain ⟨g6, e6, l6, b6⟩ : ∃ g, vs 6 = .pointer (some ⟨g, 0, none⟩) ∧ _ := hal 3 rfl
  replace HE : Hd (Env X1 [⟨g6, 84, [.int .i64 0, .int .i64 0]⟩]) := ⟨Env.addne (e := ⟨g6, 84, [.int .i64 0, .int .i64 0]⟩) HE.out b6 (fun e' he => Nat.ne_of_lt (Nat.lt_of_lt_of_le (HL0.out e' he) l6))⟩
  have G6 : Hd (w.heap.size ≤ g6) := ⟨Nat.le_trans HBW.out.size l6⟩
  simp only [PA, e11, e6]
  generalize vs 9 = s9
  generalize vs 10 = s10
  clear hv hal hne hb HL0 HBW e11 e6 l6 b6
  refine wpList_st rfl rfl rfl rfl rfl (sto_Z (HE.out.get 0 rfl)) ?_
  have HE' : Env (putL X1 g6 0 [.int .i64 (((Wn : Nat) : Int)), .int .i64 (((Hn : Nat) : Int))]) [⟨g6, 84, [.int .i64 (((Wn : Nat) : Int)), .int .i64 (((Hn : Nat) : Int))]⟩] := HE.out.putF 0 rfl rfl
  have HB' := putL_below (show w.heap.size ≤ g6 from G6.out) [.int .i64 (((Wn : Nat) : Int)), .int .i64 (((Hn : Nat) : Int))] _ 0 HB.out
  generalize putL X1 g6 0 [.int .i64 (((Wn : Nat) : Int)), .int .i64 (((Hn : Nat) : Int))] = X2 at *
  replace HE := Hd.mk HE'
  replace HB := Hd.mk HB'
  clear HE' HB'
  go_upto_region 2 with fail
  refine wp_region_vd 3 [12, 13, 14] [2] [] 84 [.int .i64 0, .int .i64 0] [isV (.agg #[.int .i64 (((Wn : Nat) : Int)), .int .i64 (((Hn : Nat) : Int))]), isV (.bool true), isV (.bool false)] (by rfl) alloc_Z ?_ ?_
  · intro qi qh qA aa wx hb hs hd
    match qi, qh, qA with
    | 0, _, _ => exact .inl ⟨rfl, op_ldZ rfl rfl (hs 6 rfl) ((HE.out.to hb).get 0 rfl)⟩
    | 1, _, _ => exact .inl ⟨rfl, wp_b (bool_eq HS.out) (op_call1 rfl rfl Try.call53 (by rw [(show aa.eval (.tmp 12) = .agg #[.int .i64 (((Wn : Nat) : Int)), .int .i64 (((Hn : Nat) : Int))] from (hd 0 rfl))]; exact valid_got (((Wn : Nat) : Int)) (((Hn : Nat) : Int)) _))⟩
    | 2, _, _ => exact .inl ⟨rfl, ⟨_, op_not rfl (hd 1 rfl), rfl⟩⟩
    | qi + 3, h, _ => omega
  intro vs X3 hb hv hal hne
  replace HB := Hd.mk (bel_then HB.out hb)
  replace HE := Hd.mk (HE.out.to hb)
  have e14 : vs 14 = .bool false := hv 2 (by decide) rfl
  simp only [PA, e14]
  generalize vs 12 = s12
  generalize vs 13 = s13
  clear hv hal hne hb e14
  go_upto_region 4 with fail
  refine wp_region_vd 1 [7] [] [0] 54 [.slice none 0 0] [SP.any] (by rfl) alloc_Q ?_ ?_
  · intro qi qh qA aa wx hb hs hd
    match qi, qh, qA with
    | 0, _, h => cases h
    | qi + 1, h, _ => omega
  intro vs X4 hb hv hal hne
  have HL0 := Hd.mk (HE.out.lt)
  have HBW := HB
  replace HB := Hd.mk (bel_then HB.out hb)
  replace HE := Hd.mk (HE.out.to hb)
  obtain ⟨g7, e7, l7, b7⟩ : ∃ g, vs 7 = .pointer (some ⟨g, 0, none⟩) ∧ _ := hal 0 rfl
  replace HE : Hd (Env X4 [⟨g6, 84, [.int .i64 (((Wn : Nat) : Int)), .int .i64 (((Hn : Nat) : Int))]⟩, ⟨g7, 54, [.slice none 0 0]⟩]) := ⟨Env.addne (e := ⟨g7, 54, [.slice none 0 0]⟩) HE.out b7 (fun e' he => Nat.ne_of_lt (Nat.lt_of_lt_of_le (HL0.out e' he) l7))⟩
  have G7 : Hd (w.heap.size ≤ g7) := ⟨Nat.le_trans HBW.out.size l7⟩
  simp only [PA, e7]
  clear hv hal hne hb HL0 HBW e7 l7 b7
  go_upto_region 5 with fail
  refine wp_region_vd 2 [15, 16] [] [] 84 [.int .i64 0, .int .i64 0] [isV (.agg #[.int .i64 (((Wn : Nat) : Int)), .int .i64 (((Hn : Nat) : Int))]), isAl X4.heap.size Wn Hn] (by rfl) alloc_Z ?_ ?_
  · intro qi qh qA aa wx hb hs hd
    match qi, qh, qA with
    | 0, _, _ => exact .inl ⟨rfl, op_ldZ rfl rfl (hs 6 rfl) ((HE.out.to hb).get 0 rfl)⟩
    | 1, _, _ => exact .inl ⟨rfl, op_call1 rfl rfl Try.call70 (by rw [show aa.eval (.tmp 15) = _ from hd 0 rfl]; exact got_al hb.size (all_got Wn Hn _))⟩
    | qi + 2, h, _ => omega
  intro vs X5 hb hv hal hne
  have HL0 := Hd.mk (HE.out.lt)
  have HBW := HB
  replace HB := Hd.mk (bel_then HB.out hb)
  replace HE := Hd.mk (HE.out.to hb)
  obtain ⟨g16, e16, l16, b16⟩ : ∃ b, vs 16 = .func (.func 88) #[] #[.pointer (some ⟨b, 0, none⟩)] ∧ X4.heap.size ≤ b ∧ Blk X5 b 84 [.int .i64 (((Wn : Nat) : Int)), .int .i64 (((Hn : Nat) : Int))] := hv 1 (by decide) rfl
  replace HE : Hd (Env X5 [⟨g6, 84, [.int .i64 (((Wn : Nat) : Int)), .int .i64 (((Hn : Nat) : Int))]⟩, ⟨g7, 54, [.slice none 0 0]⟩, ⟨g16, 84, [.int .i64 (((Wn : Nat) : Int)), .int .i64 (((Hn : Nat) : Int))]⟩]) := ⟨Env.addne (e := ⟨g16, 84, [.int .i64 (((Wn : Nat) : Int)), .int .i64 (((Hn : Nat) : Int))]⟩) HE.out b16 (fun e' he => Nat.ne_of_lt (Nat.lt_of_lt_of_le (HL0.out e' he) l16))⟩
  have G16 : Hd (w.heap.size ≤ g16) := ⟨Nat.le_trans HBW.out.size l16⟩
  simp only [PA, e16]
  generalize vs 15 = s15
  clear hv hal hne hb HL0 HBW e16 l16 b16
  go_wp2_with fail
  refine (wpIn_wide (n := 5)).1 ?_
  have hWn : 1 ≤ Wn ∧ Wn ≤ 8 := by omega
  have hHn : 1 ≤ Hn ∧ Hn ≤ 8 := by omega
  obtain ⟨i0, hi0, hz0, hz1, hz2⟩ := info_parts Try.info_smove
  have hl7 : w.heap.size ≤ g7 := G7.out
  refine wpIn_rangeFunc_ownH (w0 := X5) (encs := fun m => #[mvV m]) (Kp := KpM) (S := fun xs => xs = mvs1 Wn Hn 2) (Sp := fun pre => pre <+: mvs1 Wn Hn 2) (N := 512) rfl (by decide) (gf := 88) (lb := #[.pointer (some ⟨g16, 0, none⟩)]) rfl trivial (enters_of Try.func88 (by kernel_rfl) rfl)
    (fun l J Jx W hW hJ hJx hY h0 => callsIn_wide.2 (all1_got 4 l g16 (by decide) Wn Hn hWn hHn J Jx _ hJ hY W ((HE.out.get 2 rfl).to hW) h0)) KpM.trans KpM.obj (Below.refl _ _) (fun _ => rfl)
    (fun pre W => (∃ v, Boxed W g7 54 v ∧ W.ownsRow w.heap.size 31 4 v pre.length (mcells pre) ∧ True) ∧ Below w.heap.size w W)
    (fun _ _ _ => False)
    (OwnFrom.and (Own.from (holdsRow_own w.heap.size g7 54 31 4 (fun pre : List Mv => pre.length) mcells (fun _ _ => True)) _) (ownFrom_below (Nat.le_refl _) HB.out.size))
    (fun _ _ _ _ _ hs _ _ => hs)
    ⟨⟨_, HE.out.get 1 rfl, World.ownsRow_nil _ _ _ _, trivial⟩, HB.out⟩
    (fun x a' W => ∃ Bx, Blk W Bx 31 [.int .i64 x.x, .int .i64 x.y, .int .i64 x.t, .bool x.f] ∧ a' = { tmps := #[.int .i64 ((Wn : Nat) : Int), .int .i64 ((Hn : Nat) : Int), undef, undef, .slice none 0 0, .int .i64 0, .pointer (some ⟨g6, 0, none⟩), .pointer (some ⟨g7, 0, none⟩), .pointer (some ⟨Bx, 0, none⟩), s9, s10, .agg #[.int .i64 ((Wn : Nat) : Int), .int .i64 ((Hn : Nat) : Int)], s12, s13, .bool false, s15, .func (.func 88) #[] #[.pointer (some ⟨g16, 0, none⟩)], mvV x, undef, undef, undef, undef, undef], defers := [] })
    (fun x a' _ Y Z row hs hg hr => by obtain ⟨Bx, h2, h3⟩ := hs; exact ⟨Bx, h2.own hg (fun r e => (hr r e).2), h3⟩)
    ?assign ?body ?done ?stop
  case assign =>
    rintro l pre x W K ⟨⟨v, hv, hrow, _⟩, hB⟩ hK
    dsimp only [mvV]
    gi_wp2
    exact hK _ _ ((KeepsOthers.alloc _ _).from _) (KpM.of_below (below_alloc (Below.refl _ _) _)) ⟨⟨v, hv.alloc _, hrow.alloc _, trivial⟩, below_alloc hB _⟩ ⟨W.heap.size, heap_alloc_new _ _, rfl⟩
  case body =>
    rintro l pre x a' W hl ⟨r, hr⟩ ⟨⟨v, hv, hrow, _⟩, hB⟩ ⟨Bx, bX, rfl⟩ hlt
    have hc := hv.cell
    have hc0 := bX.cell 0
    have hc1 := bX.cell 1
    have hc2 := bX.cell 2
    have hc3 := bX.cell 3
    dsimp only [mvV]
    gi_wp2_with (first | (gi_at_builtin; refine wpListIn_append_own _ rfl _ _ 54 rfl w.heap.size 31 i0 (.agg #[.int .i64 0, .int .i64 0, .int .i64 0, .bool false]) 4 32 Try.underlying54 hi0 hz0 hz1 hz2 rfl (by decide) _ _ _ rfl (hrow.alloc _) ⟨W.heap.size, 0, none⟩ 1 1 [.int .i64 x.x, .int .i64 x.y, .int .i64 x.t, .bool x.f] rfl rfl ?c1 ?c2 ?c3 ?c4 ?c5 ?_) | fail)
    case c1 =>
      intro z u hz
      rcases z with _ | _ | _ | _ | z <;> simp at hz <;> subst hz <;> simp [Addr.add]
    case c2 =>
      intro u hu
      simp at hu
      rcases hu with rfl | rfl | rfl | rfl <;> rfl
    case c3 => unfold maxLen; omega
    case c4 => omega
    case c5 => have := hB.size; simp; omega
    intro v' w1 hown' hgrow _
    obtain ⟨g', cap', rfl⟩ := ownsRow_succ hown'
    obtain ⟨hv1, hv2, hr2, hk2, hb2⟩ := hv.appended (by decide) hrow hB.size hl7 hown' hgrow
    have hd1 := hv1.cell
    have hf1 := hv1.frozen
    gi_wp2
    refine ⟨hk2.from _, KpM.app hv1 hrow hgrow, ⟨_, hv2, ?_, trivial⟩, hB.trans hb2⟩
    rw [mcells_add, List.length_append]
    exact hr2
  case done =>
    rintro D _ W hD rfl ⟨⟨v, hv, hrow, _⟩, hB⟩ hK
    have hc := hv.cell
    go_wp2_with fail
    refine ⟨by simp, .inl ⟨_, _, rfl, run_takeDeferred hK, ?_⟩⟩
    exact ⟨_, (by simp [results, Try.results37, go_sem] <;> rfl), _, rfl, hB.trans (belowK_b (w := w) (Nat.le_refl _) W D _ _ (Nat.le_trans HB.out.size hD) hK rfl rfl), _, _, rfl, ownsRow_putObj hrow _ hK rfl, rfl⟩
  case stop =>
    rintro D c pre W _ _ h _
    exact h.elim
end Go.Proofs.Ytddbmckbankmeaa
set_option linter.unusedVariables false
set_option linter.unusedSimpArgs false
namespace Go.Proofs.Ytddbmckbankmeaa
open Go.RowKit
section
variable {lo lo' : Nat} {w : World} {v : Value} {A : Option Addr} {n k : Nat} {xs : List Int}
end
theorem OwnS.lower {lo lo' : Nat} {w : World} {v : Value} {ms : List Mv} (h : lo ≤ lo') (ho : OwnS lo' w v ms) : OwnS lo w v ms := by
  refine ⟨ho.1, ?_⟩
  rcases ho.2 with hn | ⟨g', cap, cur, rfl, hb, hgg, rest⟩
  · exact .inl hn
  exact .inr ⟨g', cap, cur, rfl, by omega, hgg, rest⟩
end Go.Proofs.Ytddbmckbankmeaa
set_option linter.unusedVariables false
set_option linter.unusedSimpArgs false
namespace Go.Proofs.Ytddbmckbankmeaa
open Go.RowKit
section
variable {Q : Exit → Act → World → Prop} {o : Oper} {a : Act} {w w' : World} {d g j n k i lo : Nat} {x y : Operand} {t : TypeId} {W H : Int} {ts : List Sl} {rest ys_ : List Value} {s : Sl} {ys : List Int}
def OwnU (lo : Nat) (w : World) (v : Value) (W H : Int) (ts : List Sl) : Prop := w.ownsRow lo 24 3 v ts.length (ts.flatMap (encT W H))
theorem OwnU.to {v : Value} (h : OwnU lo w v W H ts) (hb : Below w.heap.size w w') : OwnU lo w' v W H ts := own_to h hb
theorem OwnU.lt {v : Value} (h : OwnU lo w v W H ts) : ∀ k, v.ownBlock = some k → lo ≤ k ∧ k < w.heap.size := World.ownsRow.lt h
end
section
variable {w w' : World} {lo g o : Nat} {W H : Int} {ts : List Sl} {t : TypeId} {us vs : List Value}
theorem OwnU.put {v : Value} (h : OwnU lo w v W H ts) (hlt : ∀ k, v.ownBlock = some k → k < g) : OwnU lo (putL w g o vs) v W H ts := own_put hlt h
end
end Go.Proofs.Ytddbmckbankmeaa
set_option linter.unusedVariables false
set_option linter.unusedSimpArgs false
namespace Go.Proofs.Ytddbmckbankmeaa
open Go.RowKit
section
variable {w w' : World} {lo g : Nat} {W H : Int} {ts us : List Sl} {v : Value} {t : TypeId} {cs : List Value} {A : Option Addr} {k n q size B : Nat} {xs : List Value}
theorem Reads.take (h : Reads w B size A n xs) (hk : q ≤ n) : Reads w B size A q (xs.take (q * size)) := by
  refine ⟨?_, fun hn => ?_⟩
  · rw [List.length_take, h.1]
    exact Nat.min_eq_left (Nat.mul_le_mul_right _ hk)
  obtain ⟨ad, e, hb, hc⟩ := h.2 (by omega)
  refine ⟨ad, e, hb, fun j u hu => hc j u ?_⟩
  rw [List.getElem?_take] at hu
  split at hu
  · exact hu
  cases hu
theorem OwnU.cl (h : OwnU lo w v W H ts) : ∃ A k, v = .slice A ts.length k ∧ ts.length ≤ k ∧ k ≤ 9223372036854775807 ∧ (A = none → ts.length = 0 ∧ k = 0) := by
  rcases h.2 with ⟨rfl, hn⟩ | ⟨g, cap, cur, rfl, hlo, hg, hnc, hcm, _⟩
  · exact ⟨none, 0, by rw [hn], by omega, by omega, fun _ => ⟨hn, rfl⟩⟩
  exact ⟨_, cap, rfl, hnc, hcm, fun e => by cases e⟩
theorem OwnU.row (h : OwnU lo w v W H ts) (hne : ts ≠ []) : ∃ g cap rest, v = .slice (some ⟨g, 0, none⟩) ts.length cap ∧ lo ≤ g ∧ Blk w g 24 (ts.flatMap (encT W H) ++ rest) ∧ ts.length ≤ cap ∧ cap ≤ maxLen := by
  rcases h.2 with ⟨_, hn⟩ | ⟨g, cap, cur, rfl, hlo, hg, hnc, hcm, hcs, htk⟩
  · exact absurd (List.eq_nil_of_length_eq_zero hn) hne
  refine ⟨g, cap, cur.toList.drop (ts.length * 3), rfl, hlo, ?_, hnc, hcm⟩
  rw [← htk, List.take_append_drop]
  exact hg
theorem OwnU.ld (h : OwnU lo w (.slice A n k) W H ts) {j : Nat} {s : Sl} (hj : ts[j]? = some s) : ∃ g, A = some ⟨g, 0, none⟩ ∧ w.cell? ⟨g, j * 3, none⟩ = some (.int .i64 W) ∧ w.cell? ⟨g, j * 3 + 1, none⟩ = some (.int .i64 H) ∧ w.cell? ⟨g, j * 3 + 2, none⟩ = some (.slice s.A s.xs.length s.k) := by
  have hne : ts ≠ [] := fun e => by rw [e] at hj; cases hj
  obtain ⟨g, cap, rest, e, _, hb, _⟩ := h.row hne
  injection e with e
  exact ⟨g, e, tcell_ld hb hj⟩
theorem OwnU.some_ (h : OwnU lo w (.slice A n k) W H ts) {j : Nat} {s : Sl} (hj : ts[j]? = some s) : ∃ g, A = some ⟨g, 0, none⟩ := let ⟨g, e, _⟩ := h.ld hj; ⟨g, e⟩
theorem OwnU.ne (h : OwnU lo w v W H ts) (hne : ts ≠ []) (hb : Blk w g t []) : ∀ r, v.ownBlock = some r → r ≠ g := fun r hr e => by
  obtain ⟨g', cap, rest, rfl, _, hb', _⟩ := h.row hne
  injection hr with hr
  have e2 : g' = g := hr.trans e
  subst e2
  unfold Blk at hb hb'
  rw [hb] at hb'
  injection hb' with hb'
  injection hb' with hc _ _
  have := congrArg Array.size hc
  cases ts with
  | nil => exact hne rfl
  | cons a l => simp [encT] at this
theorem OwnU.by_ {r : Option Nat} (h : OwnU lo w v W H ts) (hg : w.grownBy w' r) (hne : ∀ z, r = some z → ∀ y, v.ownBlock = some y → z ≠ y) : OwnU lo w' v W H ts := by
  refine ⟨h.1, ?_⟩
  rcases h.2 with hn | ⟨g', cap, cur, rfl, hb, hgg, rest⟩
  · exact .inl hn
  exact .inr ⟨g', cap, cur, rfl, hb, (hg.block g' (Array.getElem?_eq_some_iff.1 hgg).1 (fun e => hne g' e.symm g' rfl rfl)).trans hgg, rest⟩
theorem OwnU.lower {lo' : Nat} (h : lo ≤ lo') (ho : OwnU lo' w v W H ts) : OwnU lo w v W H ts := by
  refine ⟨ho.1, ?_⟩
  rcases ho.2 with hn | ⟨g', cap, cur, rfl, hb, hgg, rest⟩
  · exact .inl hn
  exact .inr ⟨g', cap, cur, rfl, by omega, hgg, rest⟩
end
section
variable {Q : Exit → Act → World → Prop} {o : Oper} {a : Act} {w : World} {d g n k i lo m c : Nat} {x y : Operand} {W H : Int} {us vs : List Sl} {A : Option Addr} {v0 : Value} {R : Act → World → Prop}
end
end Go.Proofs.Ytddbmckbankmeaa
