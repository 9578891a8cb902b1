/- Part 27 of the texts behind this claim. -/
import Derived.RangeFuncNested
import Derived.RangeFuncBound
import Derived.RangeFuncCalls
import Derived.RangeFuncLeaves
import Derived.RangeFuncBox
import Derived.Shelf.Abstract
import Derived.WalkKit
import Derived.OwnWalkIn
import Derived.TacticsInMore
import Derived.LoopNIn
import Derived.LoopIn
import Derived.Test.YtddbmckbankmeaaGreatKb24
import Derived.Test.YtddbmckbankmeaaGreatKb26
set_option linter.unusedVariables false
set_option linter.unusedSimpArgs false
namespace Go.Proofs.YtddbmckbankmeaaGreat
open Go.RowKit Go.Shelf
attribute [local go_sem] Oper.semAt_some
def KpM (W W' : World) : Prop := W.heap.size ≤ W'.heap.size ∧ ∀ g t us, t ≠ 65 → t ≠ 29 → Blk W g t us → Blk W' g t us
theorem KpM.trans {A B C : World} (h : KpM A B) (k : KpM B C) : KpM A C := ⟨Nat.le_trans h.1 k.1, fun g t us h1 h2 hb => k.2 g t us h1 h2 (h.2 g t us h1 h2 hb)⟩
def JW (J : List Mv → World → Prop) (pre : List Mv) (bm : Nat) (X : World) : Prop := ∃ W1, W1.heap.size = bm + 1 ∧ J pre W1 ∧ Below W1.heap.size W1 X
section
variable {J : List Mv → World → Prop} {pre : List Mv} {bm g o : Nat} {X X' : World} {vs : List Value}
theorem JW.lt (h : JW J pre bm X) : bm < X.heap.size := let ⟨W1, h1, _, h3⟩ := h; by have := h3.size; omega
theorem JW.to (h : JW J pre bm X) (hb : Below X.heap.size X X') : JW J pre bm X' := let ⟨W1, h1, h2, h3⟩ := h; ⟨W1, h1, h2, below_then h3 h3.size hb⟩
theorem JW.put (h : JW J pre bm X) (hg : bm < g) : JW J pre bm (putL X g o vs) := let ⟨W1, h1, h2, h3⟩ := h; ⟨W1, h1, h2, putL_below (by omega) vs _ o h3⟩
theorem JW.get {B : Nat} (h : JW J pre bm X) (hJ : AbidesFrom B J) : J pre X := let ⟨W1, h1, h2, h3⟩ := h; hJ pre W1 X none h2 (bel_grown h3) (fun r e => by cases e)
theorem JW.new (h : J pre X) (h0 : 0 < X.heap.size) : JW J pre (X.heap.size - 1) X := ⟨X, by omega, h, Below.refl _ _⟩
end
section
variable {Q : Exit → Act → World → Prop} {o : Oper} {a : Act} {w : World} {d : Nat} {b0 b1 : Bool}
end
end Go.Proofs.YtddbmckbankmeaaGreat
set_option linter.unusedVariables false
set_option linter.unusedSimpArgs false
namespace Go.Proofs.YtddbmckbankmeaaGreat
open Go.RowKit
theorem bools_inj : ∀ {bs cs : List Bool}, bools bs = bools cs → bs = cs
 | [], [], _ => rfl
 | [], c :: cs, h => by cases h
 | b :: bs, [], h => by cases h
 | b :: bs, c :: cs, h => by
  unfold bools at h; rw [List.map_cons, List.map_cons] at h; injection h with h1 h2
  injection h1 with h1
  rw [h1, bools_inj (show bools bs = bools cs from h2)]
open Classical in
noncomputable def fc (g N : Nat) (w : World) : Nat := if h : ∃ bs rest, Blk w g 4 (bools bs ++ rest) ∧ bs.length = N then (Classical.choose h).count false else 0
theorem fc_eq {g N : Nat} {w : World} {bs : List Bool} {rest : List Value} (h : Blk w g 4 (bools bs ++ rest)) (hl : bs.length = N) : fc g N w = bs.count false := by
 have hex : ∃ bs rest, Blk w g 4 (bools bs ++ rest) ∧ bs.length = N := ⟨bs, rest, h, hl⟩; unfold fc; rw [dif_pos hex]; have hs := Classical.choose_spec hex; generalize Classical.choose hex = cs at hs ⊢; obtain ⟨rest2, h2, hl2⟩ := hs; have e := (show w.heap[g]? = _ from h).symm.trans h2; simp at e; have l1 : (bools bs).length = N := by simp [bools, hl]
 have l2 : (bools cs).length = N := by simp [bools, hl2]
 have h3 := congrArg (List.take N) e; rw [List.take_append_of_le_length (by omega), List.take_append_of_le_length (by omega), List.take_of_length_le (by omega), List.take_of_length_le (by omega)] at h3; rw [bools_inj h3]
theorem op_lenB3 {o : Oper} {a : Act} {w : World} {d n k : Nat} {A : Option Addr} {x : Operand} {Q : Exit → Act → World → Prop} (ho : o.op = .call { callee := .builtin .len, args := #[x], argTypes := #[78] }) (hd : o.dst = some d) (hx : a.eval x = .slice A n k) : o.wp Tryz.prog a w (Post a w d (isV (.int .i64 ((n : Nat) : Int))).p) Q := by
 refine op_run hd ?_ rfl; generalize a.eval = ev at hx ⊢; unfold execOp; simp only [ho]; simp [go_sem, hx]
set_option maxRecDepth 100000 in
set_option maxHeartbeats 1000000 in
theorem cycles_got (Wd Ht : Int) (m : Mv) (N : Nat) (w : World) (hal : Al Wd Ht m) (hN : (N : Int) = Wd * Ht) :
  Calls Tryz.prog 26 #[.agg #[.int .i64 Wd, .int .i64 Ht], .agg #[.int .i64 m.x, .int .i64 m.y, .int .i64 m.t, .bool m.f]] w (Got w (isV (.int .i64 ((cyN Wd Ht N m : Nat) : Int))).p) := by
 have hwh := hal.w; have hwh2 := hal.h; have hN64 : N ≤ 64 := by have := mul_small (a := Wd) (b := Ht) (by omega) (by omega); omega
 have HNN := Hd.mk hN.symm; have HN := Hd.mk hN; have HAL := Hd.mk hal; clear hN hal; go_enter Tryz.func26, Tryz.ntmps26
 go_upto_region 1 with fail
 obtain ⟨W0, hW0⟩ : ∃ W : World, W = (w.alloc (.cells #[.int .i64 Wd, .int .i64 Ht] 63)).alloc (.cells #[.int .i64 m.x, .int .i64 m.y, .int .i64 m.t, .bool m.f] 65) := ⟨_, rfl⟩; rw [← hW0]; obtain ⟨he, hb⟩ := env_two hW0; have HE := Hd.mk he; have HB := Hd.mk hb; clear he hb hW0; refine wp_region_vd 0 [] [] [] 63 [.int .i64 0, .int .i64 0] [] (by rfl) alloc_Z ?_ ?_
 ·intro qi qh qA aa wx hb hs hd
  match qi, qh, qA with
  | qi + 0, h, _ => omega
 intro vs X1 hb hv hal hne; replace HB := Hd.mk (bel_then HB.out hb); replace HE := Hd.mk (HE.out.to hb); simp only [PA]; clear hv hal hne hb; go_upto_region 2 with fail
 refine wp_region_vd 6 [9, 10, 11, 12, 13, 14] [0, 2, 4] [] 63 [.int .i64 0, .int .i64 0] [isV (.pointer (some ⟨w.heap.size, 0, none⟩)), qI Wd, isV (.pointer (some ⟨w.heap.size, 1, none⟩)), qI Ht, qI ((N : Nat) : Int), isBs X1.heap.size (List.replicate N false)] (by rfl) alloc_Z ?_ ?_
 ·intro qi qh qA aa wx hb hs hd
  match qi, qh, qA with
  | 0, _, _ => exact aL ⟨_, op_faZ0 rfl (hs 2 rfl), rfl⟩ | 1, _, _ => exact aL (op_ldI rfl rfl (hd 0 rfl) ((HE.out.to hb).cell 0 0 rfl rfl)) | 2, _, _ => exact aL ⟨_, op_faZ1 rfl (hs 2 rfl), rfl⟩ | 3, _, _ => exact aL (op_ldI rfl rfl (hd 2 rfl) ((HE.out.to hb).cell 0 1 rfl rfl)) | 4, _, _ => exact aL (pure_b (int_eq HNN.out) (⟨_, op_mul (by unfold Fit; rw [HNN.out]; omega) rfl (hd 1 rfl) (hd 3 rfl), rfl⟩)) | 5, _, _ => exact aL (op_makeB (by omega) rfl rfl (hd 4 rfl) (hd 4 rfl) _ hb.size) | qi + 6, h, _ => omega
 intro vs X2 hb hv hal hne; have HL0 := Hd.mk (HE.out.lt); have HBW := HB; replace HB := Hd.mk (bel_then HB.out hb); replace HE := Hd.mk (HE.out.to hb); obtain ⟨g14, e14, l14, rest14, b14⟩ : ∃ g, vs 14 = .slice (some ⟨g, 0, none⟩) (List.replicate N false).length (List.replicate N false).length ∧ X1.heap.size ≤ g ∧ ∃ rest, Blk X2 g 4 (bools (List.replicate N false) ++ rest) := hv 5 (by decide) rfl; rw [List.length_replicate] at e14; replace HE : Hd (Env X2 [⟨w.heap.size, 63, [.int .i64 Wd, .int .i64 Ht]⟩, ⟨w.heap.size + 1, 65, [.int .i64 m.x, .int .i64 m.y, .int .i64 m.t, .bool m.f]⟩, ⟨g14, 4, bools (List.replicate N false) ++ rest14⟩]) := ⟨Env.addne (e := ⟨g14, 4, bools (List.replicate N false) ++ rest14⟩) HE.out b14 (fun e' he => Nat.ne_of_lt (Nat.lt_of_lt_of_le (HL0.out e' he) l14))⟩; have G14 : Hd (w.heap.size ≤ g14) := ⟨Nat.le_trans HBW.out.size l14⟩; simp only [PA, e14]; clear hv hal hne hb HL0 HBW e14 l14 b14; go_upto_region 3 with fail
 refine wp_region_vd 3 [15, 16, 17] [0, 2] [] 63 [.int .i64 0, .int .i64 0] [isV (.slice (some ⟨g14, 0, none⟩) N N), qI ((N : Nat) : Int), qI 0] (by rfl) alloc_Z ?_ ?_
 ·intro qi qh qA aa wx hb hs hd
  match qi, qh, qA with
  | 0, _, _ => exact aL (op_mv rfl (hs 6 rfl)) | 1, _, _ => exact aL (op_lenB3 rfl rfl (hd 0 rfl)) | 2, _, _ => exact aL (op_mv rfl rfl) | qi + 3, h, _ => omega
 intro vs X3 hb hv hal hne; replace HB := Hd.mk (bel_then HB.out hb); replace HE := Hd.mk (HE.out.to hb); have e16 : vs 16 = .int .i64 (((N : Nat) : Int)) := hv 1 (by decide) rfl; have e17 : vs 17 = .int .i64 0 := hv 2 (by decide) rfl; simp only [PA, e16, e17]; clear hv hal hne hb e16 e17; have HE0 : Hd (Env X3 [⟨w.heap.size, 63, [.int .i64 Wd, .int .i64 Ht]⟩, ⟨w.heap.size + 1, 65, [.int .i64 m.x, .int .i64 m.y, .int .i64 m.t, .bool m.f]⟩, ⟨g14, 4, bools (List.replicate N false) ++ rest14⟩]) := ⟨HE.out⟩; go_wp2_with fail
 go_loopw [5, 17] (fun s5 s17 wr => ∃ (i n : Nat) (bs : List Bool), i ≤ N ∧ s17 = .int .i64 i ∧ s5 = .int .i64 n ∧ n ≤ i ∧ Cy (piM Wd Ht m) N bs n ∧ (∀ j, j < i → bs.getD j false = true) ∧ Env wr [⟨w.heap.size, 63, [.int .i64 Wd, .int .i64 Ht]⟩, ⟨w.heap.size + 1, 65, [.int .i64 m.x, .int .i64 m.y, .int .i64 m.t, .bool m.f]⟩, ⟨g14, 4, bools bs ++ rest14⟩] ∧ Below w.heap.size w wr) (fun _ s17 _ => N - (intOf s17).toNat)
 case atStart => exact ⟨0, 0, _, Nat.zero_le _, rfl, rfl, Nat.le_refl _, Cy.start _ _, (fun j hj => by omega), HE0.out, HB.out⟩
 case round =>
  obtain ⟨i, n, bs, hi, rfl, rfl, hni, hcy, hall, he, hb⟩ := hrel; clear HB HE HE0; have HB := Hd.mk hb; have HCY := Hd.mk hcy; have HALL := Hd.mk hall; have HE : Hd (Env wr [⟨w.heap.size, 63, [.int .i64 Wd, .int .i64 Ht]⟩, ⟨w.heap.size + 1, 65, [.int .i64 m.x, .int .i64 m.y, .int .i64 m.t, .bool m.f]⟩, ⟨g14, 4, bools bs ++ rest14⟩]) := ⟨he⟩; have hbl := hcy.len; clear he hb hcy hall; by_cases hj : i < N
  ·skip
   go_upto_region 5 with fail
   refine wp_region_vd 1 [19] [0] [] 63 [.int .i64 0, .int .i64 0] [qI ((i : Nat) : Int)] (by rfl) alloc_Z ?_ ?_
   ·intro qi qh qA aa wx hb hs hd
    match qi, qh, qA with
    | 0, _, _ => exact aL (op_mv rfl (hs 17 rfl)) | qi + 1, h, _ => omega
   intro vs X1 hb hv hal hne; replace HB := Hd.mk (bel_then HB.out hb); replace HE := Hd.mk (HE.out.to hb); have e19 : vs 19 = .int .i64 (((i : Nat) : Int)) := hv 0 (by decide) rfl; simp only [PA, e19]; clear hv hal hne hb e19; cases hv : bs.getD i false
   ·have HV := Hd.mk hv; clear hv; go_upto_region 6 with fail
    refine wp_region_vd 5 [20, 21, 22, 23, 24] [0, 1, 4] [] 63 [.int .i64 0, .int .i64 0] [isV (.slice (some ⟨g14, 0, none⟩) N N), qI ((i : Nat) : Int), isV (.pointer (some ⟨g14, (((i : Nat) : Int)).toNat, none⟩)), qF, qT] (by rfl) alloc_Z ?_ ?_
    ·intro qi qh qA aa wx hb hs hd
     match qi, qh, qA with
     | 0, _, _ => exact aL (op_mv rfl (hs 6 rfl)) | 1, _, _ => exact aL (op_mv rfl (hs 7 rfl)) | 2, _, _ => exact aL (op_run rfl (op_idxB (by omega) (by omega) rfl (hd 0 rfl) (hd 1 rfl) _) rfl) | 3, _, _ => exact aL (wp_b (bool_eq (by rw [Int.toNat_natCast]; exact HV.out)) (op_ldB rfl rfl (hd 2 rfl) (BB.cell ⟨_, (HE.out.to hb).get 2 rfl⟩ (by omega)))) | 4, _, _ => exact aL ⟨_, op_not rfl (hd 3 rfl), rfl⟩ | qi + 5, h, _ => omega
    intro vs X2 hb hv hal hne; replace HB := Hd.mk (bel_then HB.out hb); replace HE := Hd.mk (HE.out.to hb); have e24 : vs 24 = .bool true := hv 4 (by decide) rfl; simp only [PA, e24]; clear hv hal hne hb e24; go_upto_region 7 with fail
    refine wp_region_vd 2 [25, 26] [0, 1] [] 63 [.int .i64 0, .int .i64 0] [qI ((n : Nat) : Int), qI ((n + 1 : Nat) : Int)] (by rfl) alloc_Z ?_ ?_
    ·intro qi qh qA aa wx hb hs hd
     match qi, qh, qA with
     | 0, _, _ => exact aL (op_mv rfl (hs 5 rfl)) | 1, _, _ => exact aL (pure_b (int_eq (by omega)) (⟨_, op_add (by unfold Fit; omega) rfl (hd 0 rfl) rfl, rfl⟩)) | qi + 2, h, _ => omega
    intro vs X3 hb hv hal hne; replace HB := Hd.mk (bel_then HB.out hb); replace HE := Hd.mk (HE.out.to hb); have e26 : vs 26 = .int .i64 (((n + 1 : Nat) : Int)) := hv 1 (by decide) rfl; simp only [PA, e26]; clear hv hal hne hb e26; go_upto_region 8 with fail
    refine wp_region_vd 1 [27] [0] [] 63 [.int .i64 0, .int .i64 0] [qI ((i : Nat) : Int)] (by rfl) alloc_Z ?_ ?_
    ·intro qi qh qA aa wx hb hs hd
     match qi, qh, qA with
     | 0, _, _ => exact aL (op_mv rfl (hs 7 rfl)) | qi + 1, h, _ => omega
    intro vs X4 hb hv hal hne; replace HB := Hd.mk (bel_then HB.out hb); replace HE := Hd.mk (HE.out.to hb); have e27 : vs 27 = .int .i64 (((i : Nat) : Int)) := hv 0 (by decide) rfl; simp only [PA, e27]; clear hv hal hne hb e27; have HFC := Hd.mk (fun (w2 : World) (b2 : List Bool) (hbk : Blk w2 g14 4 (bools b2 ++ rest14)) (hl : b2.length = N) => fc_eq hbk hl); have HCW0 := Hd.mk (Cw.start (i := i) HCY.out); go_wp2_with fail
    go_loopw [8] (fun s8 wr => ∃ (t c : Nat) (b2 : List Bool), Cw (piM Wd Ht m) N bs i t b2 c ∧ s8 = .int .i64 c ∧ Env wr [⟨w.heap.size, 63, [.int .i64 Wd, .int .i64 Ht]⟩, ⟨w.heap.size + 1, 65, [.int .i64 m.x, .int .i64 m.y, .int .i64 m.t, .bool m.f]⟩, ⟨g14, 4, bools b2 ++ rest14⟩] ∧ Below w.heap.size w wr) (fun _ wr => fc g14 N wr)
    case atStart => exact ⟨0, i, bs, HCW0.out, rfl, HE.out, HB.out⟩
    case round =>
     obtain ⟨t, c, b2, hcw, rfl, he, hb⟩ := hrel; clear HB HE; have HB := Hd.mk hb; have HCW := Hd.mk hcw; have HE : Hd (Env wr [⟨w.heap.size, 63, [.int .i64 Wd, .int .i64 Ht]⟩, ⟨w.heap.size + 1, 65, [.int .i64 m.x, .int .i64 m.y, .int .i64 m.t, .bool m.f]⟩, ⟨g14, 4, bools b2 ++ rest14⟩]) := ⟨he⟩; have hbl2 := hcw.len; have hcN : c < N := by rw [hcw.at_]; exact itr_lt (pi_lt HAL.out HN.out) hj t
     clear he hb hcw; have HFCW := Hd.mk (HFC.out wr b2 (HE.out.get 2 rfl) hbl2); cases hv : b2.getD c false
     ·have HV2 := Hd.mk hv; clear hv; go_upto_region 9 with fail
      refine wp_region_vd 5 [28, 29, 30, 31, 32] [0, 1, 4] [] 63 [.int .i64 0, .int .i64 0] [isV (.slice (some ⟨g14, 0, none⟩) N N), qI ((c : Nat) : Int), isV (.pointer (some ⟨g14, (((c : Nat) : Int)).toNat, none⟩)), qF, qT] (by rfl) alloc_Z ?_ ?_
      ·intro qi qh qA aa wx hb hs hd
       match qi, qh, qA with
       | 0, _, _ => exact aL (op_mv rfl (hs 6 rfl)) | 1, _, _ => exact aL (op_mv rfl (hs 8 rfl)) | 2, _, _ => exact aL (op_run rfl (op_idxB (by omega) (by omega) rfl (hd 0 rfl) (hd 1 rfl) _) rfl) | 3, _, _ => exact aL (wp_b (bool_eq (by rw [Int.toNat_natCast]; exact HV2.out)) (op_ldB rfl rfl (hd 2 rfl) (BB.cell ⟨_, (HE.out.to hb).get 2 rfl⟩ (by omega)))) | 4, _, _ => exact aL ⟨_, op_not rfl (hd 3 rfl), rfl⟩ | qi + 5, h, _ => omega
      intro vs X1 hb hv hal hne; replace HB := Hd.mk (bel_then HB.out hb); replace HE := Hd.mk (HE.out.to hb); have e32 : vs 32 = .bool true := hv 4 (by decide) rfl; simp only [PA, e32]; clear hv hal hne hb e32; go_upto_region 11 with fail
      refine wp_region_vd 3 [37, 38, 39] [0, 1] [] 63 [.int .i64 0, .int .i64 0] [isV (.slice (some ⟨g14, 0, none⟩) N N), qI ((c : Nat) : Int), isV (.pointer (some ⟨g14, (((c : Nat) : Int)).toNat, none⟩))] (by rfl) alloc_Z ?_ ?_
      ·intro qi qh qA aa wx hb hs hd
       match qi, qh, qA with
       | 0, _, _ => exact aL (op_mv rfl (hs 6 rfl)) | 1, _, _ => exact aL (op_mv rfl (hs 8 rfl)) | 2, _, _ => exact aL (op_run rfl (op_idxB (by omega) (by omega) rfl (hd 0 rfl) (hd 1 rfl) _) rfl) | qi + 3, h, _ => omega
      intro vs X2 hb hv hal hne; replace HB := Hd.mk (bel_then HB.out hb); replace HE := Hd.mk (HE.out.to hb); have e39 : vs 39 = .pointer (some ⟨g14, (((c : Nat) : Int)).toNat, none⟩) := hv 2 (by decide) rfl; simp only [PA, e39]; clear hv hal hne hb e39; refine wpList_st rfl rfl rfl rfl rfl (sto_BB (b := true) ⟨_, HE.out.get 2 rfl⟩ (by omega)) ?_; have HE' : Env (putL X2 g14 ((((c : Nat) : Int)).toNat) [.bool true]) [⟨w.heap.size, 63, [.int .i64 Wd, .int .i64 Ht]⟩, ⟨w.heap.size + 1, 65, [.int .i64 m.x, .int .i64 m.y, .int .i64 m.t, .bool m.f]⟩, ⟨g14, 4, bools (b2.set ((((c : Nat) : Int)).toNat) true) ++ rest14⟩] := HE.out.putBs (b := true) 2 rfl (by omega); have HB' := putL_below (show w.heap.size ≤ g14 from G14.out) [.bool true] _ ((((c : Nat) : Int)).toNat) HB.out; generalize putL X2 g14 ((((c : Nat) : Int)).toNat) [.bool true] = X3 at *; replace HE := Hd.mk HE'; replace HB := Hd.mk HB'; clear HE' HB'; have HEC : Env X3 [⟨w.heap.size, 63, [.int .i64 Wd, .int .i64 Ht]⟩, ⟨w.heap.size + 1, 65, [.int .i64 m.x, .int .i64 m.y, .int .i64 m.t, .bool m.f]⟩, ⟨g14, 4, bools (b2.set c true) ++ rest14⟩] := by have h := HE.out; simp only [Int.toNat_natCast] at h; exact h
      replace HE := Hd.mk HEC; clear HEC; go_upto_region 10 with fail
      refine wp_region_vd 4 [33, 34, 35, 36] [2] [] 63 [.int .i64 0, .int .i64 0] [isV (.agg #[.int .i64 Wd, .int .i64 Ht]), isV (.agg #[.int .i64 m.x, .int .i64 m.y, .int .i64 m.t, .bool m.f]), qI ((c : Nat) : Int), qI ((piM Wd Ht m c : Nat) : Int)] (by rfl) alloc_Z ?_ ?_
      ·intro qi qh qA aa wx hb hs hd
       match qi, qh, qA with
       | 0, _, _ => exact aL (op_ldZ rfl rfl (hs 2 rfl) ((HE.out.to hb).get 0 rfl)) | 1, _, _ => exact aL (op_ldM rfl rfl (hs 3 rfl) ((HE.out.to hb).get 1 rfl)) | 2, _, _ => exact aL (op_mv rfl (hs 8 rfl)) | 3, _, _ => exact aL (wp_b (int_eq ((pi_cell HAL.out c).symm)) (op_call3 rfl rfl Tryz.call63 (by rw [(show aa.eval (.tmp 33) = .agg #[.int .i64 Wd, .int .i64 Ht] from (hd 0 rfl)), (show aa.eval (.tmp 34) = .agg #[.int .i64 m.x, .int .i64 m.y, .int .i64 m.t, .bool m.f] from (hd 1 rfl)), (show aa.eval (.tmp 35) = .int .i64 (((c : Nat) : Int)) from (hd 2 rfl))]; exact to_got Wd Ht m.x m.y m.t (((c : Nat) : Int)) m.f HAL.out.okm (by omega) _))) | qi + 4, h, _ => omega
      intro vs X4 hb hv hal hne; replace HB := Hd.mk (bel_then HB.out hb); replace HE := Hd.mk (HE.out.to hb); have e36 : vs 36 = .int .i64 (((piM Wd Ht m c : Nat) : Int)) := hv 3 (by decide) rfl; simp only [PA, e36]; clear hv hal hne hb e36; go_wp2_with fail
      go_roundw
      case rel => exact ⟨t + 1, _, _, HCW.out.step (pi_lt HAL.out HN.out) hj HV2.out, rfl, HE.out, HB.out⟩
      case measure =>
       rw [HFC.out _ (b2.set c true) (HE.out.get 2 rfl) (by rw [List.length_set]; exact hbl2)]; rw [HFCW.out]; exact count_set_b (by omega) HV2.out
     have HV2 := Hd.mk hv; clear hv; have HD := Hd.mk (HCW.out.done (pi_lt HAL.out HN.out) HCY.out hj HV.out HV2.out (pi_inj HAL.out HN.out)); go_upto_region 9 with fail
     refine wp_region_vd 5 [28, 29, 30, 31, 32] [0, 1, 4] [] 63 [.int .i64 0, .int .i64 0] [isV (.slice (some ⟨g14, 0, none⟩) N N), qI ((c : Nat) : Int), isV (.pointer (some ⟨g14, (((c : Nat) : Int)).toNat, none⟩)), qT, qF] (by rfl) alloc_Z ?_ ?_
     ·intro qi qh qA aa wx hb hs hd
      match qi, qh, qA with
      | 0, _, _ => exact aL (op_mv rfl (hs 6 rfl)) | 1, _, _ => exact aL (op_mv rfl (hs 8 rfl)) | 2, _, _ => exact aL (op_run rfl (op_idxB (by omega) (by omega) rfl (hd 0 rfl) (hd 1 rfl) _) rfl) | 3, _, _ => exact aL (wp_b (bool_eq (by rw [Int.toNat_natCast]; exact HV2.out)) (op_ldB rfl rfl (hd 2 rfl) (BB.cell ⟨_, (HE.out.to hb).get 2 rfl⟩ (by omega)))) | 4, _, _ => exact aL ⟨_, op_not rfl (hd 3 rfl), rfl⟩ | qi + 5, h, _ => omega
     intro vs X1 hb hv hal hne; replace HB := Hd.mk (bel_then HB.out hb); replace HE := Hd.mk (HE.out.to hb); have e32 : vs 32 = .bool false := hv 4 (by decide) rfl; simp only [PA, e32]; clear hv hal hne hb e32; go_wp2_with fail
     go_roundw
     case rel => exact ⟨i + 1, n + 1, b2, by omega, by go_num, rfl, by omega, HD.out.1, (fun j hj2 => by
      rcases Nat.lt_or_ge j i with h | h
      ·exact HD.out.2.2 j (by omega) (HALL.out j h)
      obtain rfl : j = i := by omega
      exact HD.out.2.1), HE.out, HB.out⟩
     case measure => simp [intOf]; omega
   have HV := Hd.mk hv; clear hv; go_upto_region 6 with fail
   refine wp_region_vd 5 [20, 21, 22, 23, 24] [0, 1, 4] [] 63 [.int .i64 0, .int .i64 0] [isV (.slice (some ⟨g14, 0, none⟩) N N), qI ((i : Nat) : Int), isV (.pointer (some ⟨g14, (((i : Nat) : Int)).toNat, none⟩)), qT, qF] (by rfl) alloc_Z ?_ ?_
   ·intro qi qh qA aa wx hb hs hd
    match qi, qh, qA with
    | 0, _, _ => exact aL (op_mv rfl (hs 6 rfl)) | 1, _, _ => exact aL (op_mv rfl (hs 7 rfl)) | 2, _, _ => exact aL (op_run rfl (op_idxB (by omega) (by omega) rfl (hd 0 rfl) (hd 1 rfl) _) rfl) | 3, _, _ => exact aL (wp_b (bool_eq (by rw [Int.toNat_natCast]; exact HV.out)) (op_ldB rfl rfl (hd 2 rfl) (BB.cell ⟨_, (HE.out.to hb).get 2 rfl⟩ (by omega)))) | 4, _, _ => exact aL ⟨_, op_not rfl (hd 3 rfl), rfl⟩ | qi + 5, h, _ => omega
   intro vs X2 hb hv hal hne; replace HB := Hd.mk (bel_then HB.out hb); replace HE := Hd.mk (HE.out.to hb); have e24 : vs 24 = .bool false := hv 4 (by decide) rfl; simp only [PA, e24]; clear hv hal hne hb e24; go_upto_region 8 with fail
   refine wp_region_vd 1 [27] [0] [] 63 [.int .i64 0, .int .i64 0] [qI ((i : Nat) : Int)] (by rfl) alloc_Z ?_ ?_
   ·intro qi qh qA aa wx hb hs hd
    match qi, qh, qA with
    | 0, _, _ => exact aL (op_mv rfl (hs 7 rfl)) | qi + 1, h, _ => omega
   intro vs X3 hb hv hal hne; replace HB := Hd.mk (bel_then HB.out hb); replace HE := Hd.mk (HE.out.to hb); have e27 : vs 27 = .int .i64 (((i : Nat) : Int)) := hv 0 (by decide) rfl; simp only [PA, e27]; clear hv hal hne hb e27; go_wp2_with fail
   go_loopw [8] (fun s8 wr => s8 = .int .i64 i ∧ Env wr [⟨w.heap.size, 63, [.int .i64 Wd, .int .i64 Ht]⟩, ⟨w.heap.size + 1, 65, [.int .i64 m.x, .int .i64 m.y, .int .i64 m.t, .bool m.f]⟩, ⟨g14, 4, bools bs ++ rest14⟩] ∧ Below w.heap.size w wr) (fun _ _ => 0)
   case atStart => exact ⟨rfl, HE.out, HB.out⟩
   case round =>
    obtain ⟨rfl, he, hb⟩ := hrel; clear HB HE; have HB := Hd.mk hb; have HE : Hd (Env wr [⟨w.heap.size, 63, [.int .i64 Wd, .int .i64 Ht]⟩, ⟨w.heap.size + 1, 65, [.int .i64 m.x, .int .i64 m.y, .int .i64 m.t, .bool m.f]⟩, ⟨g14, 4, bools bs ++ rest14⟩]) := ⟨he⟩; clear he hb; go_upto_region 9 with fail
    refine wp_region_vd 5 [28, 29, 30, 31, 32] [0, 1, 4] [] 63 [.int .i64 0, .int .i64 0] [isV (.slice (some ⟨g14, 0, none⟩) N N), qI ((i : Nat) : Int), isV (.pointer (some ⟨g14, (((i : Nat) : Int)).toNat, none⟩)), qT, qF] (by rfl) alloc_Z ?_ ?_
    ·intro qi qh qA aa wx hb hs hd
     match qi, qh, qA with
     | 0, _, _ => exact aL (op_mv rfl (hs 6 rfl)) | 1, _, _ => exact aL (op_mv rfl (hs 8 rfl)) | 2, _, _ => exact aL (op_run rfl (op_idxB (by omega) (by omega) rfl (hd 0 rfl) (hd 1 rfl) _) rfl) | 3, _, _ => exact aL (wp_b (bool_eq (by rw [Int.toNat_natCast]; exact HV.out)) (op_ldB rfl rfl (hd 2 rfl) (BB.cell ⟨_, (HE.out.to hb).get 2 rfl⟩ (by omega)))) | 4, _, _ => exact aL ⟨_, op_not rfl (hd 3 rfl), rfl⟩ | qi + 5, h, _ => omega
    intro vs X1 hb hv hal hne; replace HB := Hd.mk (bel_then HB.out hb); replace HE := Hd.mk (HE.out.to hb); have e32 : vs 32 = .bool false := hv 4 (by decide) rfl; simp only [PA, e32]; clear hv hal hne hb e32; go_wp2_with fail
    go_roundw
    case rel => exact ⟨i + 1, n, bs, by omega, by go_num, rfl, by omega, HCY.out, (fun j hj2 => by
     rcases Nat.lt_or_ge j i with h | h
     ·exact HALL.out j h
     obtain rfl : j = i := by omega
     exact HV.out), HE.out, HB.out⟩
    case measure => simp [intOf]; omega
  have e1 : i = N := by omega
  have HCN : Hd (cyN Wd Ht N m = n) := ⟨cyc_eq HAL.out HN.out (HCY.out.all fun j hj2 => HALL.out j (by omega))⟩; go_wp2_with fail
  go_ret
  exact ⟨_, rfl, HB.out, by rw [HCN.out]; rfl⟩
set_option maxRecDepth 100000 in
set_option maxHeartbeats 1000000 in
theorem rcycles_got (Wd Ht : Int) (m : Mv) (N : Nat) (w : World) (hal : Al Wd Ht m) (hN : (N : Int) = Wd * Ht) :
  Calls Tryz.prog 40 #[.int .i64 Wd, .int .i64 Ht, .agg #[.int .i64 m.x, .int .i64 m.y, .int .i64 m.t, .bool m.f]] w (Got w (isV (.int .i64 ((cyN Wd Ht N m : Nat) : Int))).p) := by
 have hwh := hal.w; have hwh2 := hal.h; have hN64 : N ≤ 64 := by have := mul_small (a := Wd) (b := Ht) (by omega) (by omega); omega
 have HNN := Hd.mk hN.symm; have HN := Hd.mk hN; have HAL := Hd.mk hal; clear hN hal; go_enter Tryz.func40, Tryz.ntmps40
 go_upto_region 1 with fail
 obtain ⟨W0, hW0⟩ : ∃ W : World, W = w.alloc (.cells #[.int .i64 m.x, .int .i64 m.y, .int .i64 m.t, .bool m.f] 56) := ⟨_, rfl⟩; rw [← hW0]; obtain ⟨he, hb⟩ := env_one hW0; have HE := Hd.mk he; have HB := Hd.mk hb; clear he hb hW0; refine wp_region_vd 4 [11, 12, 13, 14] [0, 1, 2] [] 63 [.int .i64 0, .int .i64 0] [qI Wd, qI Ht, qI ((N : Nat) : Int), isBs W0.heap.size (List.replicate N false)] (by rfl) alloc_Z ?_ ?_
 ·intro qi qh qA aa wx hb hs hd
  match qi, qh, qA with
  | 0, _, _ => exact aL (op_mv rfl (hs 0 rfl)) | 1, _, _ => exact aL (op_mv rfl (hs 1 rfl)) | 2, _, _ => exact aL (pure_b (int_eq HNN.out) (⟨_, op_mul (by unfold Fit; rw [HNN.out]; omega) rfl (hd 0 rfl) (hd 1 rfl), rfl⟩)) | 3, _, _ => exact aL (op_makeB (by omega) rfl rfl (hd 2 rfl) (hd 2 rfl) _ hb.size) | qi + 4, h, _ => omega
 intro vs X1 hb hv hal hne; have HL0 := Hd.mk (HE.out.lt); have HBW := HB; replace HB := Hd.mk (bel_then HB.out hb); replace HE := Hd.mk (HE.out.to hb); obtain ⟨g14, e14, l14, rest14, b14⟩ : ∃ g, vs 14 = .slice (some ⟨g, 0, none⟩) (List.replicate N false).length (List.replicate N false).length ∧ W0.heap.size ≤ g ∧ ∃ rest, Blk X1 g 4 (bools (List.replicate N false) ++ rest) := hv 3 (by decide) rfl; rw [List.length_replicate] at e14; replace HE : Hd (Env X1 [⟨w.heap.size, 56, [.int .i64 m.x, .int .i64 m.y, .int .i64 m.t, .bool m.f]⟩, ⟨g14, 4, bools (List.replicate N false) ++ rest14⟩]) := ⟨Env.addne (e := ⟨g14, 4, bools (List.replicate N false) ++ rest14⟩) HE.out b14 (fun e' he => Nat.ne_of_lt (Nat.lt_of_lt_of_le (HL0.out e' he) l14))⟩; have G14 : Hd (w.heap.size ≤ g14) := ⟨Nat.le_trans HBW.out.size l14⟩; simp only [PA, e14]; clear hv hal hne hb HL0 HBW e14 l14 b14; go_upto_region 2 with fail
 refine wp_region_vd 0 [] [] [] 63 [.int .i64 0, .int .i64 0] [] (by rfl) alloc_Z ?_ ?_
 ·intro qi qh qA aa wx hb hs hd
  match qi, qh, qA with
  | qi + 0, h, _ => omega
 intro vs X2 hb hv hal hne; replace HB := Hd.mk (bel_then HB.out hb); replace HE := Hd.mk (HE.out.to hb); simp only [PA]; clear hv hal hne hb; go_upto_region 3 with fail
 refine wp_region_vd 3 [15, 16, 17] [0, 2] [] 63 [.int .i64 0, .int .i64 0] [isV (.slice (some ⟨g14, 0, none⟩) N N), qI ((N : Nat) : Int), qI 0] (by rfl) alloc_Z ?_ ?_
 ·intro qi qh qA aa wx hb hs hd
  match qi, qh, qA with
  | 0, _, _ => exact aL (op_mv rfl (hs 7 rfl)) | 1, _, _ => exact aL (op_lenB3 rfl rfl (hd 0 rfl)) | 2, _, _ => exact aL (op_mv rfl rfl) | qi + 3, h, _ => omega
 intro vs X3 hb hv hal hne; replace HB := Hd.mk (bel_then HB.out hb); replace HE := Hd.mk (HE.out.to hb); have e16 : vs 16 = .int .i64 (((N : Nat) : Int)) := hv 1 (by decide) rfl; have e17 : vs 17 = .int .i64 0 := hv 2 (by decide) rfl; simp only [PA, e16, e17]; clear hv hal hne hb e16 e17; have HE0 : Hd (Env X3 [⟨w.heap.size, 56, [.int .i64 m.x, .int .i64 m.y, .int .i64 m.t, .bool m.f]⟩, ⟨g14, 4, bools (List.replicate N false) ++ rest14⟩]) := ⟨HE.out⟩; go_wp2_with fail
 go_loopw [8, 17] (fun s8 s17 wr => ∃ (i n : Nat) (bs : List Bool), i ≤ N ∧ s17 = .int .i64 i ∧ s8 = .int .i64 n ∧ n ≤ i ∧ Cy (piM Wd Ht m) N bs n ∧ (∀ j, j < i → bs.getD j false = true) ∧ Env wr [⟨w.heap.size, 56, [.int .i64 m.x, .int .i64 m.y, .int .i64 m.t, .bool m.f]⟩, ⟨g14, 4, bools bs ++ rest14⟩] ∧ Below w.heap.size w wr) (fun _ s17 _ => N - (intOf s17).toNat)
 case atStart => exact ⟨0, 0, _, Nat.zero_le _, rfl, rfl, Nat.le_refl _, Cy.start _ _, (fun j hj => by omega), HE0.out, HB.out⟩
 case round =>
  obtain ⟨i, n, bs, hi, rfl, rfl, hni, hcy, hall, he, hb⟩ := hrel; clear HB HE HE0; have HB := Hd.mk hb; have HCY := Hd.mk hcy; have HALL := Hd.mk hall; have HE : Hd (Env wr [⟨w.heap.size, 56, [.int .i64 m.x, .int .i64 m.y, .int .i64 m.t, .bool m.f]⟩, ⟨g14, 4, bools bs ++ rest14⟩]) := ⟨he⟩; have hbl := hcy.len; clear he hb hcy hall; by_cases hj : i < N
  ·skip
   go_upto_region 5 with fail
   refine wp_region_vd 1 [19] [0] [] 63 [.int .i64 0, .int .i64 0] [qI ((i : Nat) : Int)] (by rfl) alloc_Z ?_ ?_
   ·intro qi qh qA aa wx hb hs hd
    match qi, qh, qA with
    | 0, _, _ => exact aL (op_mv rfl (hs 17 rfl)) | qi + 1, h, _ => omega
   intro vs X1 hb hv hal hne; replace HB := Hd.mk (bel_then HB.out hb); replace HE := Hd.mk (HE.out.to hb); have e19 : vs 19 = .int .i64 (((i : Nat) : Int)) := hv 0 (by decide) rfl; simp only [PA, e19]; clear hv hal hne hb e19; cases hv : bs.getD i false
   ·have HV := Hd.mk hv; clear hv; go_upto_region 6 with fail
    refine wp_region_vd 4 [20, 21, 22, 23] [0, 1] [] 63 [.int .i64 0, .int .i64 0] [isV (.slice (some ⟨g14, 0, none⟩) N N), qI ((i : Nat) : Int), isV (.pointer (some ⟨g14, (((i : Nat) : Int)).toNat, none⟩)), qF] (by rfl) alloc_Z ?_ ?_
    ·intro qi qh qA aa wx hb hs hd
     match qi, qh, qA with
     | 0, _, _ => exact aL (op_mv rfl (hs 7 rfl)) | 1, _, _ => exact aL (op_mv rfl (hs 9 rfl)) | 2, _, _ => exact aL (op_run rfl (op_idxB (by omega) (by omega) rfl (hd 0 rfl) (hd 1 rfl) _) rfl) | 3, _, _ => exact aL (wp_b (bool_eq (by rw [Int.toNat_natCast]; exact HV.out)) (op_ldB rfl rfl (hd 2 rfl) (BB.cell ⟨_, (HE.out.to hb).get 1 rfl⟩ (by omega)))) | qi + 4, h, _ => omega
    intro vs X2 hb hv hal hne; replace HB := Hd.mk (bel_then HB.out hb); replace HE := Hd.mk (HE.out.to hb); have e23 : vs 23 = .bool false := hv 3 (by decide) rfl; simp only [PA, e23]; clear hv hal hne hb e23; go_upto_region 7 with fail
    refine wp_region_vd 2 [24, 25] [0, 1] [] 63 [.int .i64 0, .int .i64 0] [qI ((n : Nat) : Int), qI ((n + 1 : Nat) : Int)] (by rfl) alloc_Z ?_ ?_
    ·intro qi qh qA aa wx hb hs hd
     match qi, qh, qA with
     | 0, _, _ => exact aL (op_mv rfl (hs 8 rfl)) | 1, _, _ => exact aL (pure_b (int_eq (by omega)) (⟨_, op_add (by unfold Fit; omega) rfl (hd 0 rfl) rfl, rfl⟩)) | qi + 2, h, _ => omega
    intro vs X3 hb hv hal hne; replace HB := Hd.mk (bel_then HB.out hb); replace HE := Hd.mk (HE.out.to hb); have e25 : vs 25 = .int .i64 (((n + 1 : Nat) : Int)) := hv 1 (by decide) rfl; simp only [PA, e25]; clear hv hal hne hb e25; go_upto_region 8 with fail
    refine wp_region_vd 1 [26] [0] [] 63 [.int .i64 0, .int .i64 0] [qI ((i : Nat) : Int)] (by rfl) alloc_Z ?_ ?_
    ·intro qi qh qA aa wx hb hs hd
     match qi, qh, qA with
     | 0, _, _ => exact aL (op_mv rfl (hs 9 rfl)) | qi + 1, h, _ => omega
    intro vs X4 hb hv hal hne; replace HB := Hd.mk (bel_then HB.out hb); replace HE := Hd.mk (HE.out.to hb); have e26 : vs 26 = .int .i64 (((i : Nat) : Int)) := hv 0 (by decide) rfl; simp only [PA, e26]; clear hv hal hne hb e26; have HFC := Hd.mk (fun (w2 : World) (b2 : List Bool) (hbk : Blk w2 g14 4 (bools b2 ++ rest14)) (hl : b2.length = N) => fc_eq hbk hl); have HCW0 := Hd.mk (Cw.start (i := i) HCY.out); go_wp2_with fail
    go_loopw [10] (fun s10 wr => ∃ (t c : Nat) (b2 : List Bool), Cw (piM Wd Ht m) N bs i t b2 c ∧ s10 = .int .i64 c ∧ Env wr [⟨w.heap.size, 56, [.int .i64 m.x, .int .i64 m.y, .int .i64 m.t, .bool m.f]⟩, ⟨g14, 4, bools b2 ++ rest14⟩] ∧ Below w.heap.size w wr) (fun _ wr => fc g14 N wr)
    case atStart => exact ⟨0, i, bs, HCW0.out, rfl, HE.out, HB.out⟩
    case round =>
     obtain ⟨t, c, b2, hcw, rfl, he, hb⟩ := hrel; clear HB HE; have HB := Hd.mk hb; have HCW := Hd.mk hcw; have HE : Hd (Env wr [⟨w.heap.size, 56, [.int .i64 m.x, .int .i64 m.y, .int .i64 m.t, .bool m.f]⟩, ⟨g14, 4, bools b2 ++ rest14⟩]) := ⟨he⟩; have hbl2 := hcw.len; have hcN : c < N := by rw [hcw.at_]; exact itr_lt (pi_lt HAL.out HN.out) hj t
     clear he hb hcw; have HFCW := Hd.mk (HFC.out wr b2 (HE.out.get 1 rfl) hbl2); cases hv : b2.getD c false
     ·have HV2 := Hd.mk hv; clear hv; go_upto_region 9 with fail
      refine wp_region_vd 5 [27, 28, 29, 30, 31] [0, 1, 4] [] 63 [.int .i64 0, .int .i64 0] [isV (.slice (some ⟨g14, 0, none⟩) N N), qI ((c : Nat) : Int), isV (.pointer (some ⟨g14, (((c : Nat) : Int)).toNat, none⟩)), qF, qT] (by rfl) alloc_Z ?_ ?_
      ·intro qi qh qA aa wx hb hs hd
       match qi, qh, qA with
       | 0, _, _ => exact aL (op_mv rfl (hs 7 rfl)) | 1, _, _ => exact aL (op_mv rfl (hs 10 rfl)) | 2, _, _ => exact aL (op_run rfl (op_idxB (by omega) (by omega) rfl (hd 0 rfl) (hd 1 rfl) _) rfl) | 3, _, _ => exact aL (wp_b (bool_eq (by rw [Int.toNat_natCast]; exact HV2.out)) (op_ldB rfl rfl (hd 2 rfl) (BB.cell ⟨_, (HE.out.to hb).get 1 rfl⟩ (by omega)))) | 4, _, _ => exact aL ⟨_, op_not rfl (hd 3 rfl), rfl⟩ | qi + 5, h, _ => omega
      intro vs X1 hb hv hal hne; replace HB := Hd.mk (bel_then HB.out hb); replace HE := Hd.mk (HE.out.to hb); have e31 : vs 31 = .bool true := hv 4 (by decide) rfl; simp only [PA, e31]; clear hv hal hne hb e31; go_upto_region 11 with fail
      refine wp_region_vd 3 [37, 38, 39] [0, 1] [] 63 [.int .i64 0, .int .i64 0] [isV (.slice (some ⟨g14, 0, none⟩) N N), qI ((c : Nat) : Int), isV (.pointer (some ⟨g14, (((c : Nat) : Int)).toNat, none⟩))] (by rfl) alloc_Z ?_ ?_
      ·intro qi qh qA aa wx hb hs hd
       match qi, qh, qA with
       | 0, _, _ => exact aL (op_mv rfl (hs 7 rfl)) | 1, _, _ => exact aL (op_mv rfl (hs 10 rfl)) | 2, _, _ => exact aL (op_run rfl (op_idxB (by omega) (by omega) rfl (hd 0 rfl) (hd 1 rfl) _) rfl) | qi + 3, h, _ => omega
      intro vs X2 hb hv hal hne; replace HB := Hd.mk (bel_then HB.out hb); replace HE := Hd.mk (HE.out.to hb); have e39 : vs 39 = .pointer (some ⟨g14, (((c : Nat) : Int)).toNat, none⟩) := hv 2 (by decide) rfl; simp only [PA, e39]; clear hv hal hne hb e39; refine wpList_st rfl rfl rfl rfl rfl (sto_BB (b := true) ⟨_, HE.out.get 1 rfl⟩ (by omega)) ?_; have HE' : Env (putL X2 g14 ((((c : Nat) : Int)).toNat) [.bool true]) [⟨w.heap.size, 56, [.int .i64 m.x, .int .i64 m.y, .int .i64 m.t, .bool m.f]⟩, ⟨g14, 4, bools (b2.set ((((c : Nat) : Int)).toNat) true) ++ rest14⟩] := HE.out.putBs (b := true) 1 rfl (by omega); have HB' := putL_below (show w.heap.size ≤ g14 from G14.out) [.bool true] _ ((((c : Nat) : Int)).toNat) HB.out; generalize putL X2 g14 ((((c : Nat) : Int)).toNat) [.bool true] = X3 at *; replace HE := Hd.mk HE'; replace HB := Hd.mk HB'; clear HE' HB'; have HEC : Env X3 [⟨w.heap.size, 56, [.int .i64 m.x, .int .i64 m.y, .int .i64 m.t, .bool m.f]⟩, ⟨g14, 4, bools (b2.set c true) ++ rest14⟩] := by have h := HE.out; simp only [Int.toNat_natCast] at h; exact h
      replace HE := Hd.mk HEC; clear HEC; go_upto_region 10 with fail
      refine wp_region_vd 5 [32, 33, 34, 35, 36] [0, 1, 3] [] 63 [.int .i64 0, .int .i64 0] [qI Wd, qI Ht, isV (.agg #[.int .i64 m.x, .int .i64 m.y, .int .i64 m.t, .bool m.f]), qI ((c : Nat) : Int), qI ((piM Wd Ht m c : Nat) : Int)] (by rfl) alloc_Z ?_ ?_
      ·intro qi qh qA aa wx hb hs hd
       match qi, qh, qA with
       | 0, _, _ => exact aL (op_mv rfl (hs 0 rfl)) | 1, _, _ => exact aL (op_mv rfl (hs 1 rfl)) | 2, _, _ => exact aL (op_ldN rfl rfl (hs 5 rfl) ((HE.out.to hb).get 0 rfl)) | 3, _, _ => exact aL (op_mv rfl (hs 10 rfl)) | 4, _, _ => exact aL (wp_b (int_eq ((pi_cell HAL.out c).symm)) (op_call4 rfl rfl Tryz.call77 (by rw [(show aa.eval (.tmp 32) = .int .i64 Wd from (hd 0 rfl)), (show aa.eval (.tmp 33) = .int .i64 Ht from (hd 1 rfl)), (show aa.eval (.tmp 34) = .agg #[.int .i64 m.x, .int .i64 m.y, .int .i64 m.t, .bool m.f] from (hd 2 rfl)), (show aa.eval (.tmp 35) = .int .i64 (((c : Nat) : Int)) from (hd 3 rfl))]; exact goes_got Wd Ht m.x m.y m.t (((c : Nat) : Int)) m.f HAL.out.okm (by omega) _))) | qi + 5, h, _ => omega
      intro vs X4 hb hv hal hne; replace HB := Hd.mk (bel_then HB.out hb); replace HE := Hd.mk (HE.out.to hb); have e36 : vs 36 = .int .i64 (((piM Wd Ht m c : Nat) : Int)) := hv 4 (by decide) rfl; simp only [PA, e36]; clear hv hal hne hb e36; go_wp2_with fail
      go_roundw
      case rel => exact ⟨t + 1, _, _, HCW.out.step (pi_lt HAL.out HN.out) hj HV2.out, rfl, HE.out, HB.out⟩
      case measure =>
       rw [HFC.out _ (b2.set c true) (HE.out.get 1 rfl) (by rw [List.length_set]; exact hbl2)]; rw [HFCW.out]; exact count_set_b (by omega) HV2.out
     have HV2 := Hd.mk hv; clear hv; have HD := Hd.mk (HCW.out.done (pi_lt HAL.out HN.out) HCY.out hj HV.out HV2.out (pi_inj HAL.out HN.out)); go_upto_region 9 with fail
     refine wp_region_vd 5 [27, 28, 29, 30, 31] [0, 1, 4] [] 63 [.int .i64 0, .int .i64 0] [isV (.slice (some ⟨g14, 0, none⟩) N N), qI ((c : Nat) : Int), isV (.pointer (some ⟨g14, (((c : Nat) : Int)).toNat, none⟩)), qT, qF] (by rfl) alloc_Z ?_ ?_
     ·intro qi qh qA aa wx hb hs hd
      match qi, qh, qA with
      | 0, _, _ => exact aL (op_mv rfl (hs 7 rfl)) | 1, _, _ => exact aL (op_mv rfl (hs 10 rfl)) | 2, _, _ => exact aL (op_run rfl (op_idxB (by omega) (by omega) rfl (hd 0 rfl) (hd 1 rfl) _) rfl) | 3, _, _ => exact aL (wp_b (bool_eq (by rw [Int.toNat_natCast]; exact HV2.out)) (op_ldB rfl rfl (hd 2 rfl) (BB.cell ⟨_, (HE.out.to hb).get 1 rfl⟩ (by omega)))) | 4, _, _ => exact aL ⟨_, op_not rfl (hd 3 rfl), rfl⟩ | qi + 5, h, _ => omega
     intro vs X1 hb hv hal hne; replace HB := Hd.mk (bel_then HB.out hb); replace HE := Hd.mk (HE.out.to hb); have e31 : vs 31 = .bool false := hv 4 (by decide) rfl; simp only [PA, e31]; clear hv hal hne hb e31; go_wp2_with fail
     go_roundw
     case rel => exact ⟨i + 1, n + 1, b2, by omega, by go_num, rfl, by omega, HD.out.1, (fun j hj2 => by
      rcases Nat.lt_or_ge j i with h | h
      ·exact HD.out.2.2 j (by omega) (HALL.out j h)
      obtain rfl : j = i := by omega
      exact HD.out.2.1), HE.out, HB.out⟩
     case measure => simp [intOf]; omega
   have HV := Hd.mk hv; clear hv; go_upto_region 6 with fail
   refine wp_region_vd 4 [20, 21, 22, 23] [0, 1] [] 63 [.int .i64 0, .int .i64 0] [isV (.slice (some ⟨g14, 0, none⟩) N N), qI ((i : Nat) : Int), isV (.pointer (some ⟨g14, (((i : Nat) : Int)).toNat, none⟩)), qT] (by rfl) alloc_Z ?_ ?_
   ·intro qi qh qA aa wx hb hs hd
    match qi, qh, qA with
    | 0, _, _ => exact aL (op_mv rfl (hs 7 rfl)) | 1, _, _ => exact aL (op_mv rfl (hs 9 rfl)) | 2, _, _ => exact aL (op_run rfl (op_idxB (by omega) (by omega) rfl (hd 0 rfl) (hd 1 rfl) _) rfl) | 3, _, _ => exact aL (wp_b (bool_eq (by rw [Int.toNat_natCast]; exact HV.out)) (op_ldB rfl rfl (hd 2 rfl) (BB.cell ⟨_, (HE.out.to hb).get 1 rfl⟩ (by omega)))) | qi + 4, h, _ => omega
   intro vs X2 hb hv hal hne; replace HB := Hd.mk (bel_then HB.out hb); replace HE := Hd.mk (HE.out.to hb); have e23 : vs 23 = .bool true := hv 3 (by decide) rfl; simp only [PA, e23]; clear hv hal hne hb e23; go_wp2_with fail
   go_roundw
   case rel => exact ⟨i + 1, n, bs, by omega, by go_num, rfl, by omega, HCY.out, (fun j hj2 => by
    rcases Nat.lt_or_ge j i with h | h
    ·exact HALL.out j h
    obtain rfl : j = i := by omega
    exact HV.out), HE.out, HB.out⟩
   case measure => simp [intOf]; omega
  have e1 : i = N := by omega
  have HCN : Hd (cyN Wd Ht N m = n) := ⟨cyc_eq HAL.out HN.out (HCY.out.all fun j hj2 => HALL.out j (by omega))⟩; go_wp2_with fail
  go_ret
  exact ⟨_, rfl, HB.out, by rw [HCN.out]; rfl⟩
end Go.Proofs.YtddbmckbankmeaaGreat
