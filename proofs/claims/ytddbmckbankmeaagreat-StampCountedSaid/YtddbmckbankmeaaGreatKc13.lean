/- Part 13 of the texts behind this claim. -/
import Derived.Test.YtddbmckbankmeaaGreatKc10
import Derived.Test.YtddbmckbankmeaaGreatKc12
set_option linter.unusedVariables false
set_option linter.unusedSimpArgs false
namespace Go.Proofs.YtddbmckbankmeaaGreat
open Go.RowKit
section
variable {W H : Nat} {l o : List Mv} {i : Nat}
theorem zero_al {W H : Int} (hs : sizeB W H = true) : Al W H ⟨0, 0, 0, false⟩ := by
 have h := sizeB_bounds hs; exact ⟨h.1, h.2, ⟨Int.le_refl _, by show (0 : Int) < W; omega⟩, ⟨Int.le_refl _, by show (0 : Int) < H; omega⟩, ⟨Int.le_refl _, by decide⟩, .inl rfl⟩
theorem bfs_ex (hs : sizeB W H = true) (h0 : Al W H ⟨0, 0, 0, false⟩) (hl : ∀ m ∈ l, Al W H m) : ∃ o, Bfs W H l o.length o := by
 have key : ∀ k i o, Bfs W H l i o → 513 - i ≤ k → ∃ o', Bfs W H l o'.length o' := by
  intro k
  induction k with
  | zero =>
   intro i o h hk; have h1 := (h.ok h0 hl).few hs; have h2 := h.le; omega
  | succ k ih =>
   intro i o h hk; by_cases hi : i < o.length
   ·exact ih (i + 1) _ (h.step (List.getElem?_eq_getElem hi)) (by omega)
   have := h.le; obtain rfl : i = o.length := by omega
   exact ⟨o, h⟩
 exact key _ 0 _ Bfs.start (Nat.le_refl _)
open Classical in
noncomputable def bfsL (W H : Nat) (l : List Mv) : List Mv := if h : ∃ o, Bfs W H l o.length o then Classical.choose h else []
theorem bfsL_eq (h : Bfs W H l i o) (hi : o.length = i) : bfsL W H l = o := by
 have hex : ∃ o, Bfs W H l o.length o := ⟨o, by rw [hi]; exact h⟩; unfold bfsL; rw [dif_pos hex]; exact (Classical.choose_spec hex).end_ rfl h hi
noncomputable def closeL (W H : Nat) (l : List Mv) : List Mv := (mvs1 W H 2).filter fun x => memB x (bfsL W H l)
end
structure RdT (t : TypeId) (w : World) (A : Option Addr) (ms : List Mv) : Prop where
 rd : RdM w A ms
 ty : ∀ ad, A = some ad → ∃ cur, w.heap[ad.block]? = some (.cells cur t (0, 0))
theorem RdT.to {t : TypeId} {w w' : World} {A : Option Addr} {ms : List Mv} (h : RdT t w A ms) (hb : Below w.heap.size w w') : RdT t w' A ms := ⟨h.rd.to hb, fun ad e => by
 obtain ⟨cur, hc⟩ := h.ty ad e
 exact ⟨cur, (hb.block _ (Array.getElem?_eq_some_iff.1 hc).1).trans hc⟩⟩
theorem RdT.putB {t t' : TypeId} {w : World} {A : Option Addr} {ms : List Mv} {g o : Nat} {us vs : List Value} (h : RdT t w A ms) (hb : Blk w g t' us) (ht : t' ≠ t := by decide) : RdT t (putL w g o vs) A ms := by
 have hne : ∀ ad, A = some ad → ad.block ≠ g := fun ad e e2 => by
  obtain ⟨cur, hc⟩ := h.ty ad e; have := (show w.heap[g]? = _ from hb).symm.trans (e2 ▸ hc); simp at this; exact ht this.2
 have hby := putL_by vs w (g := g) o; have key : ∀ ad : Addr, A = some ad → ∀ {p : Addr} {u : Value}, p.block = ad.block → w.cell? p = some u → (putL w g o vs).cell? p = some u := fun ad e {p u} hp hu => (World.cell?_of_block (hby.block p.block (World.block_lt_of_cell? w _ hu) (fun e2 => hne ad e (by rw [← hp]; exact Option.some.inj e2)))).trans hu
 have bl : ∀ (ad : Addr) q, (ad.add q).block = ad.block := fun ad q => by unfold Addr.add; split <;> rfl
 refine ⟨fun j m hj => ?_, fun ad e => ?_⟩
 ·obtain ⟨ad, e, h0, h1, h2, h3⟩ := h.rd j m hj; exact ⟨ad, e, key ad e (bl _ _) h0, key ad e (by rw [bl, bl]) h1, key ad e (by rw [bl, bl]) h2, key ad e (by rw [bl, bl]) h3⟩
 obtain ⟨cur, hc⟩ := h.ty ad e; exact ⟨cur, (hby.block _ (Array.getElem?_eq_some_iff.1 hc).1 (fun e2 => hne ad e (Option.some.inj e2))).trans hc⟩
def isRd (t : TypeId) (ms : List Mv) : SP := ⟨fun v w => ∃ A k, v = .slice A ms.length k ∧ RdT t w A ms, fun v w w' ⟨A, k, h1, h2⟩ hb => ⟨A, k, h1, h2.to hb⟩⟩
section
variable {w w' : World} {lo b n k : Nat} {v : Value} {ms ms' : List Mv} {A : Option Addr} {e : TypeId}
theorem own_blk {size : Nat} {xs : List Value} (h : w.ownsRow lo e size v n xs) (hne : 0 < n) : ∃ g cap rest, v = .slice (some ⟨g, 0, none⟩) n cap ∧ lo ≤ g ∧ Blk w g e (xs ++ rest) := by
 rcases h.2 with ⟨_, hn⟩ | ⟨g, cap, cur, rfl, hlo, hg, hnc, hcm, hcs, htk⟩
 ·omega
 refine ⟨g, cap, cur.toList.drop (n * size), rfl, hlo, ?_⟩; rw [← htk, List.take_append_drop]; exact hg
theorem ownS_rd (h : OwnS lo w (.slice A n k) ms) : RdM w A ms := by
 obtain ⟨A', k', e, r, _⟩ := row_reads h; cases e
 exact r
theorem ownS_map (h : OwnS lo w v ms) (hg : w.grownBy w' (some b)) (hm : MapM w b ms') : OwnS lo w' v ms := by
 refine World.ownsRow.kept h hg (.inr fun e => ?_); rcases h.2 with ⟨rfl, _⟩ | ⟨g, cap, cur, rfl, _, hgb, _⟩
 ·cases e
 obtain ⟨D, ⟨es, clock, hb, _⟩, _⟩ := hm; obtain rfl : g = b := by simpa [Value.ownBlock] using e
 rw [hgb] at hb; cases hb
theorem mapM_own (hm : MapM w b ms') (hg : w.grownBy w' v.ownBlock) (h : OwnS lo w v ms) : MapM w' b ms' := by
 obtain ⟨D, h1, h2⟩ := hm; refine ⟨D, h1.kept hg fun e => ?_, h2⟩; rcases h.2 with ⟨rfl, _⟩ | ⟨g, cap, cur, rfl, _, hgb, _⟩
 ·cases e
 obtain ⟨es, clock, hb, _⟩ := h1; obtain rfl : b = g := by simpa [Value.ownBlock] using e
 rw [hgb] at hb; cases hb
theorem rd_blk {g : Nat} {rest : List Value} (h : Blk w g 65 (mcells ms ++ rest)) : RdM w (some ⟨g, 0, none⟩) ms := fun j m hj => by
 obtain ⟨h0, h1, h2, h3⟩ := mcells_at hj; have hk : ∀ q u, (mcells ms)[q]? = some u → w.cell? ⟨g, q, none⟩ = some u := fun q u hq => (h.cell q).trans (by rw [List.getElem?_append_left (List.getElem?_eq_some_iff.1 hq).1]; exact hq)
 refine ⟨⟨g, 0, none⟩, rfl, ?_⟩; rw [addr_zero]; have ha : ∀ q, (⟨g, j * 4, none⟩ : Addr).add q = ⟨g, j * 4 + q, none⟩ := fun q => by unfold Addr.add; split <;> simp_all
 rw [ha, ha, ha]; exact ⟨hk _ _ h0, hk _ _ h1, hk _ _ h2, hk _ _ h3⟩
theorem mapM_is (hm : MapM w b ms) : IsM w b := let ⟨_, ⟨es, clock, hb, _⟩, _⟩ := hm; ⟨es, clock, hb⟩
theorem blk_row {g : Nat} {t : TypeId} {us : List Value} (hb : Blk w g t us) (h : OwnS lo w v ms) (ht : t ≠ 65 ∨ ∀ k, v.ownBlock = some k → k < g) : some g ≠ v.ownBlock := fun e => by
 rcases ht with ht | ht
 ·rcases h.2 with ⟨rfl, _⟩ | ⟨g', cap, cur, rfl, _, hgb, _⟩
  ·cases e
  obtain rfl : g = g' := by simpa [Value.ownBlock] using e
  have := (show w.heap[g]? = _ from hb).symm.trans hgb; simp at this; exact ht this.2
 have := ht g e.symm; omega
end
section
variable {Q : Exit → Act → World → Prop} {ops : Array Oper} {rest : List Oper} {o : Oper} {a : Act} {w : World} {d b lo : Nat} {x y z : Operand} {ms : List Mv} {m : Mv}
theorem wpList_insM (hg : o.guard = none) (ho : o.op = .insert 92 x y z) (hd : o.dst = none) (hx : a.eval x = .map (some b)) (hy : a.eval y = .agg #[.int .i64 m.x, .int .i64 m.y, .int .i64 m.t, .bool m.f]) (hz : a.eval z = .bool true)
  (h : MapM w b ms) (hw : WfM m) (hn : ms.length < maxLen) (hK : ∀ w', MapM w' b (ms ++ [m]) → w.grownBy w' (some b) → wpList Tryz.prog ops Q rest a w') : wpList Tryz.prog ops Q (o :: rest) a w := by
 refine wpList_plain hg fun K' hK' => ?_
 obtain ⟨w', r1, r2, r3⟩ := h.store hw hn; unfold mvv at r1; unfold Oper.wp; simp [execOp, ho, hx, hy, hz, r1, Result.andThen]; show K' (a.put o.dst undef) w'; rw [hd]; exact hK' _ _ (hK w' r2 r3)
theorem op_rowM1 (ho : o.op = .buildSlice 29 1 #[(0, x)]) (hd : o.dst = some d) (hx : a.eval x = .agg #[.int .i64 m.x, .int .i64 m.y, .int .i64 m.t, .bool m.f]) (hl : lo ≤ w.heap.size) : o.wp Tryz.prog a w (Post a w d (isSs lo [m]).p) Q := by
 have key : (execOp a.eval o).run Tryz.prog w = .ok (.value (.slice (some ⟨w.heap.size, 0, none⟩) 1 1)) (w.alloc (.cells #[.int .i64 m.x, .int .i64 m.y, .int .i64 m.t, .bool m.f] 65)) := by
  generalize a.eval = ev at hx ⊢; unfold execOp; simp only [ho]; simp [go_sem, hx]
 unfold Oper.wp; rw [key]; simp only [Oper.upon, hd]; exact ⟨_, rfl, below_alloc (Below.refl _ _) _, by simp [mcells], .inr ⟨w.heap.size, 1, _, rfl, hl, heap_alloc_new w _, Nat.le_refl _, by unfold maxLen; omega, rfl, rfl⟩⟩
end
set_option maxRecDepth 100000 in
set_option maxHeartbeats 1000000 in
theorem Close1_got (Wd Ht : Int) (m : Mv) (gz : Nat) (w : World) (hz : Blk w gz 63 [.int .i64 Wd, .int .i64 Ht]) :
  Calls Tryz.prog 51 #[.agg #[.int .i64 m.x, .int .i64 m.y, .int .i64 m.t, .bool m.f], .pointer (some ⟨gz, 0, none⟩)] w (Got w (isV (.bool (!alB Wd Ht m.x m.y m.t))).p) := by
 have HZ := Hd.mk hz; clear hz; go_enter Tryz.func51, Tryz.ntmps51
 go_upto_region 1 with fail
 obtain ⟨W0, hW0⟩ : ∃ W : World, W = w.alloc (.cells #[.int .i64 m.x, .int .i64 m.y, .int .i64 m.t, .bool m.f] 65) := ⟨_, rfl⟩; rw [← hW0]; obtain ⟨he, hb⟩ := env_one hW0; have HE := Hd.mk he; have HB := Hd.mk hb; clear he hb hW0; refine wp_region_vd 4 [4, 5, 6, 7] [3] [] 63 [.int .i64 0, .int .i64 0] [isV (.agg #[.int .i64 Wd, .int .i64 Ht]), isV (.agg #[.int .i64 m.x, .int .i64 m.y, .int .i64 m.t, .bool m.f]), isV (.bool (alB Wd Ht m.x m.y m.t)), isV (.bool (!(alB Wd Ht m.x m.y m.t)))] (by rfl) alloc_Z ?_ ?_
 ·intro qi qh qA aa wx hb hs hd
  match qi, qh, qA with
  | 0, _, _ => exact aL (op_ldZ rfl rfl (hs 1 rfl) (HZ.out.to (bel_then HB.out hb))) | 1, _, _ => exact aL (op_ldM rfl rfl (hs 2 rfl) ((HE.out.to hb).get 0 rfl)) | 2, _, _ => exact aL (op_call2 rfl rfl Tryz.call52 (by rw [(show aa.eval (.tmp 4) = .agg #[.int .i64 Wd, .int .i64 Ht] from (hd 0 rfl)), (show aa.eval (.tmp 5) = .agg #[.int .i64 m.x, .int .i64 m.y, .int .i64 m.t, .bool m.f] from (hd 1 rfl))]; exact allows_got Wd Ht m.x m.y m.t m.f _)) | 3, _, _ => exact aL ⟨_, op_not rfl (hd 2 rfl), rfl⟩ | qi + 4, h, _ => omega
 intro vs X1 hb hv hal hne; replace HB := Hd.mk (bel_then HB.out hb); replace HE := Hd.mk (HE.out.to hb); have e7 : vs 7 = .bool (!(alB Wd Ht m.x m.y m.t)) := hv 3 (by decide) rfl; simp only [PA, e7]; clear hv hal hne hb e7; go_wp2_with fail
 go_ret
 exact ⟨_, rfl, HB.out, rfl⟩
set_option maxRecDepth 100000 in
set_option maxHeartbeats 1000000 in
theorem Close_ok (Wn Hn : Nat) (A : Option Addr) (k : Nat) (l : List Mv) (w : World) (hrm : RdM w A l) (hll : l.length ≤ 521) (hs : sizeB Wn Hn = true) (h16 : l.length ≤ 16) (hal : ∀ m ∈ l, Al Wn Hn m) :
  Calls Tryz.prog 20 #[.int .i64 (((Wn : Nat) : Int)), .int .i64 (((Hn : Nat) : Int)), .slice A l.length k] w (Got w (isP (isRd 65 (closeL Wn Hn l)) (isV (.int .i64 0))).p) := by
 have hwh := sizeB_bounds hs; have HZ := Hd.mk (zero_al hs); have HANY : Hd (l.any (fun m => !alB Wn Hn m.x m.y m.t) = false) := ⟨by rw [List.any_eq_false]; intro m hm; rw [(hal m hm).al]; decide⟩; have HAL := Hd.mk hal; clear hal; have HRM := Hd.mk hrm; have HS := Hd.mk hs; clear hrm hs; go_enter Tryz.func20, Tryz.ntmps20
 go_upto_region 1 with fail
 have HE : Hd (Env w []) := ⟨trivial⟩; have HB : Hd (Below w.heap.size w w) := ⟨Below.refl _ _⟩; refine wp_region_vd 4 [15, 16, 17, 8] [0, 1, 2] [3] 63 [.int .i64 0, .int .i64 0] [qI ((Wn : Nat) : Int), qI ((Hn : Nat) : Int), isV (.agg #[.int .i64 (((Wn : Nat) : Int)), .int .i64 (((Hn : Nat) : Int))]), SP.any] (by rfl) alloc_Z ?_ ?_
 ·intro qi qh qA aa wx hb hs hd
  match qi, qh, qA with
  | 0, _, _ => exact aL (op_mv rfl (hs 0 rfl)) | 1, _, _ => exact aL (op_mv rfl (hs 1 rfl)) | 2, _, _ => exact aL ⟨_, op_buZ rfl (hd 0 rfl) (hd 1 rfl), rfl⟩ | 3, _, h => cases h | qi + 4, h, _ => omega
 intro vs X1 hb hv hal hne; have HL0 := Hd.mk (HE.out.lt); have HBW := HB; replace HB := Hd.mk (bel_then HB.out hb); replace HE := Hd.mk (HE.out.to hb); have e17 : vs 17 = .agg #[.int .i64 (((Wn : Nat) : Int)), .int .i64 (((Hn : Nat) : Int))] := hv 2 (by decide) rfl; obtain ⟨g8, e8, l8, b8⟩ : ∃ g, vs 8 = .pointer (some ⟨g, 0, none⟩) ∧ _ := hal 3 rfl; replace HE : Hd (Env X1 [⟨g8, 63, [.int .i64 0, .int .i64 0]⟩]) := ⟨Env.addne (e := ⟨g8, 63, [.int .i64 0, .int .i64 0]⟩) HE.out b8 (fun e' he => Nat.ne_of_lt (Nat.lt_of_lt_of_le (HL0.out e' he) l8))⟩; have G8 : Hd (w.heap.size ≤ g8) := ⟨Nat.le_trans HBW.out.size l8⟩; simp only [PA, e17, e8]; clear hv hal hne hb HL0 HBW e17 e8 l8 b8; refine wpList_st rfl rfl rfl rfl rfl (sto_Z (HE.out.get 0 rfl)) ?_; have HE' : Env (putL X1 g8 0 [.int .i64 (((Wn : Nat) : Int)), .int .i64 (((Hn : Nat) : Int))]) [⟨g8, 63, [.int .i64 (((Wn : Nat) : Int)), .int .i64 (((Hn : Nat) : Int))]⟩] := HE.out.putF 0 rfl rfl; have HB' := putL_below (show w.heap.size ≤ g8 from G8.out) [.int .i64 (((Wn : Nat) : Int)), .int .i64 (((Hn : Nat) : Int))] _ 0 HB.out; generalize putL X1 g8 0 [.int .i64 (((Wn : Nat) : Int)), .int .i64 (((Hn : Nat) : Int))] = X2 at *; replace HE := Hd.mk HE'; replace HB := Hd.mk HB'; clear HE' HB'; go_upto_region 2 with fail
 refine wp_region_vd 13 [18, 19, 20, 21, 22, 23, 24, 25, 26, 27, 28, 29, 30] [2, 3, 4, 6, 7, 8, 9, 10, 12] [] 63 [.int .i64 0, .int .i64 0] [isV (.agg #[.int .i64 (((Wn : Nat) : Int)), .int .i64 (((Hn : Nat) : Int))]), qT, qF, qF, isV (.slice A l.length k), qI ((l.length : Nat) : Int), qF, qF, qF, isV (.slice A l.length k), isV (.func (.func 51) #[] #[.pointer (some ⟨g8, 0, none⟩)]), qF, qF] (by rfl) alloc_Z ?_ ?_
 ·intro qi qh qA aa wx hb hs hd
  match qi, qh, qA with
  | 0, _, _ => exact aL (op_ldZ rfl rfl (hs 8 rfl) ((HE.out.to hb).get 0 rfl)) | 1, _, _ => exact aL (wp_b (bool_eq HS.out) (op_call1 rfl rfl Tryz.call22 (by rw [(show aa.eval (.tmp 18) = .agg #[.int .i64 (((Wn : Nat) : Int)), .int .i64 (((Hn : Nat) : Int))] from (hd 0 rfl))]; exact valid_got Wn Hn _))) | 2, _, _ => exact aL ⟨_, op_not rfl (hd 1 rfl), rfl⟩ | 3, _, _ => exact aL (op_mv rfl (hd 2 rfl)) | 4, _, _ => exact aG (hd 3 rfl) (op_mv rfl (hs 2 rfl)) | 5, _, _ => exact aG (hd 3 rfl) (op_lenvVM rfl rfl (hd 4 rfl)) | 6, _, _ => exact aG (hd 3 rfl) (pure_b (bool_eq (decide_eq_false (by omega))) (⟨_, op_gtrI rfl (hd 5 rfl) rfl, rfl⟩)) | 7, _, _ => exact aL ⟨_, op_pickF rfl (hd 3 rfl) (hd 6 rfl), rfl⟩ | 8, _, _ => exact aL (op_mv rfl (hd 7 rfl)) | 9, _, _ => exact aG (hd 8 rfl) (op_mv rfl (hs 2 rfl)) | 10, _, _ => exact aG (hd 8 rfl) ⟨_, op_mkF1 rfl (hs 8 rfl), rfl⟩ | 11, _, _ => exact aG (hd 8 rfl) (op_call2 rfl rfl Tryz.call30 (by rw [show aa.eval (.tmp 27) = .slice A l.length k from hd 9 rfl, show aa.eval (.tmp 28) = _ from hd 10 rfl]; have h := contM_got 51 #[.pointer (some ⟨g8, 0, none⟩)] (fun m => !alB Wn Hn m.x m.y m.t) A k l wx Tryz.call51 (HRM.out.to (bel_then HB.out hb)) (by omega) (fun m hm wy hy => Close1_got Wn Hn m g8 wy ((HE.out.get 0 rfl).to (below_then hb hb.size hy))); rw [HANY.out] at h; exact h)) | 12, _, _ => exact aL ⟨_, op_pickF rfl (hd 8 rfl) (hd 11 rfl), rfl⟩ | qi + 13, h, _ => omega
 intro vs X3 hb hv hal hne; replace HB := Hd.mk (bel_then HB.out hb); replace HE := Hd.mk (HE.out.to hb); have e30 : vs 30 = .bool false := hv 12 (by decide) rfl; simp only [PA, e30]; clear hv hal hne hb e30; have HLX : Hd (w.heap.size ≤ X3.heap.size) := ⟨HB.out.size⟩; go_upto_region 4 with fail
 refine wp_region_vd 2 [31, 32] [0] [] 63 [.int .i64 0, .int .i64 0] [isV (.agg #[.int .i64 0, .int .i64 0, .int .i64 0, .bool false]), isSs X3.heap.size ([⟨0, 0, 0, false⟩])] (by rfl) alloc_Z ?_ ?_
 ·intro qi qh qA aa wx hb hs hd
  match qi, qh, qA with
  | 0, _, _ => exact aL ⟨_, op_b0M rfl, rfl⟩ | 1, _, _ => exact aL (op_rowM1 (m := ⟨0, 0, 0, false⟩) rfl rfl (hd 0 rfl) hb.size) | qi + 2, h, _ => omega
 intro vs X4 hb hv hal hne; replace HB := Hd.mk (bel_then HB.out hb); replace HE := Hd.mk (HE.out.to hb); have HO : Hd (OwnS X3.heap.size X4 (vs 32) ([⟨0, 0, 0, false⟩])) := ⟨hv 1 (by decide) rfl⟩; obtain ⟨A32, k32, e32, _⟩ := row_reads HO.out; rw [e32] at HO; simp only [PA, e32]; clear hv hal hne hb e32; replace HO := Hd.mk (ownS_low HLX.out HO.out); generalize Value.slice A32 ([⟨0, 0, 0, false⟩] : List Mv).length k32 = v9 at HO ⊢; go_upto_region 5 with fail
 refine wp_region_vd 2 [33, 34] [1] [] 63 [.int .i64 0, .int .i64 0] [isMp w.heap.size ([]), isV (.agg #[.int .i64 0, .int .i64 0, .int .i64 0, .bool false])] (by rfl) alloc_Z ?_ ?_
 ·intro qi qh qA aa wx hb hs hd
  match qi, qh, qA with
  | 0, _, _ => exact aL (op_mkM rfl rfl _ (Nat.le_trans HB.out.size hb.size)) | 1, _, _ => exact aL ⟨_, op_b0M rfl, rfl⟩ | qi + 2, h, _ => omega
 intro vs X5 hb hv hal hne; replace HB := Hd.mk (bel_then HB.out hb); replace HE := Hd.mk (HE.out.to hb); have HOL := Hd.mk HO.out.lt; replace HO := Hd.mk (HO.out.to hb); obtain ⟨bm, e33, lbm, hmm⟩ : ∃ b, vs 33 = .map (some b) ∧ w.heap.size ≤ b ∧ MapM X5 b ([]) := hv 0 (by decide) rfl; have HM := Hd.mk hmm; have HBM := Hd.mk lbm; clear hmm lbm; have e34 : vs 34 = .agg #[.int .i64 0, .int .i64 0, .int .i64 0, .bool false] := hv 1 (by decide) rfl; simp only [PA, e33, e34]; clear hv hal hne hb e33 e34 HOL; refine wpList_insM (m := ⟨0, 0, 0, false⟩) rfl rfl rfl rfl rfl rfl HM.out wf_zero (by simp [maxLen]) ?_; intro wm hm1 hg1; have HE1 := HE.out.grownM hg1 (mapM_is HM.out); have HB1 := HB.out.grown hg1 HB.out.size (fun z hz => by cases hz; exact HBM.out); have HO1 := ownS_map HO.out hg1 HM.out; replace HE := Hd.mk HE1; replace HB := Hd.mk HB1; replace HO := Hd.mk HO1; replace HM : Hd (MapM wm bm [⟨0, 0, 0, false⟩]) := ⟨hm1⟩; clear HE1 HB1 HO1 hm1 hg1; go_wp2_with fail
 go_loopw [9, 11] (fun s9 s11 wr => ∃ (i : Nat) (o : List Mv), Bfs Wn Hn l i o ∧ s11 = .int .i64 i ∧ OwnS w.heap.size wr s9 o ∧ MapM wr bm o ∧ Env wr [⟨g8, 63, [.int .i64 (((Wn : Nat) : Int)), .int .i64 (((Hn : Nat) : Int))]⟩] ∧ Below w.heap.size w wr) (fun _ s11 _ => 513 - (intOf s11).toNat)
 case atStart => exact ⟨0, _, Bfs.start, rfl, HO.out, HM.out, HE.out, HB.out⟩
 case round =>
  obtain ⟨i, o, hbf, rfl, ho, hm, he, hb⟩ := hrel; clear HB HE HO HM; obtain ⟨A9, k9, rfl, _⟩ := row_reads ho; have HB := Hd.mk hb; have HO := Hd.mk ho; have HM := Hd.mk hm; have HE : Hd (Env wr [⟨g8, 63, [.int .i64 (((Wn : Nat) : Int)), .int .i64 (((Hn : Nat) : Int))]⟩]) := ⟨he⟩; have HBF := Hd.mk hbf; have HOK := Hd.mk (hbf.ok HZ.out HAL.out); have h512 := HOK.out.few HS.out; have hio := hbf.le; clear ho hm he hb hbf; by_cases hi : i < o.length
  ·obtain ⟨x, hx⟩ : ∃ x, o[i]? = some x := ⟨_, List.getElem?_eq_getElem hi⟩; have HX := Hd.mk hx; have HAX := Hd.mk (HOK.out.al x (List.mem_of_getElem? hx)); clear hx; go_upto_region 7 with fail
   refine wp_region_vd 4 [36, 37, 38, 39] [0, 1, 3] [] 63 [.int .i64 0, .int .i64 0] [qI ((i : Nat) : Int), isV (.slice A9 o.length k9), qI ((o.length : Nat) : Int), qT] (by rfl) alloc_Z ?_ ?_
   ·intro qi qh qA aa wx hb hs hd
    match qi, qh, qA with
    | 0, _, _ => exact aL (op_mv rfl (hs 11 rfl)) | 1, _, _ => exact aL (op_mv rfl (hs 9 rfl)) | 2, _, _ => exact aL (op_lenvVM rfl rfl (hd 1 rfl)) | 3, _, _ => exact aL (pure_b (bool_eq (decide_eq_true (by omega))) (⟨_, op_lssI rfl (hd 0 rfl) (hd 2 rfl), rfl⟩)) | qi + 4, h, _ => omega
   intro vs X1 hb hv hal hne; replace HB := Hd.mk (bel_then HB.out hb); replace HE := Hd.mk (HE.out.to hb); have HML := Hd.mk HM.out.lt; replace HM := Hd.mk (HM.out.to hb); have HOL := Hd.mk HO.out.lt; replace HO := Hd.mk (HO.out.to hb); have e39 : vs 39 = .bool true := hv 3 (by decide) rfl; simp only [PA, e39]; clear hv hal hne hb e39 HML HOL; go_upto_region 9 with fail
   refine wp_region_vd 3 [42, 43, 44] [0, 2] [] 63 [.int .i64 0, .int .i64 0] [isV (.slice A l.length k), qI ((l.length : Nat) : Int), qI 0] (by rfl) alloc_Z ?_ ?_
   ·intro qi qh qA aa wx hb hs hd
    match qi, qh, qA with
    | 0, _, _ => exact aL (op_mv rfl (hs 2 rfl)) | 1, _, _ => exact aL (op_lenvVM rfl rfl (hd 0 rfl)) | 2, _, _ => exact aL (op_mv rfl rfl) | qi + 3, h, _ => omega
   intro vs X2 hb hv hal hne; replace HB := Hd.mk (bel_then HB.out hb); replace HE := Hd.mk (HE.out.to hb); have HML := Hd.mk HM.out.lt; replace HM := Hd.mk (HM.out.to hb); have HOL := Hd.mk HO.out.lt; replace HO := Hd.mk (HO.out.to hb); have e42 : vs 42 = .slice A l.length k := hv 0 (by decide) rfl; have e43 : vs 43 = .int .i64 (((l.length : Nat) : Int)) := hv 1 (by decide) rfl; have e44 : vs 44 = .int .i64 0 := hv 2 (by decide) rfl; simp only [PA, e42, e43, e44]; clear hv hal hne hb e42 e43 e44 HML HOL; go_wp2_with fail
   go_loopw [9, 44] (fun s9 s44 wr => ∃ j : Nat, j ≤ l.length ∧ s44 = .int .i64 j ∧ OwnS w.heap.size wr s9 (innB Wn Hn x (l.take j) o) ∧ MapM wr bm (innB Wn Hn x (l.take j) o) ∧ Env wr [⟨g8, 63, [.int .i64 (((Wn : Nat) : Int)), .int .i64 (((Hn : Nat) : Int))]⟩] ∧ Below w.heap.size w wr) (fun _ s44 _ => l.length - (intOf s44).toNat)
   case atStart => exact ⟨0, Nat.zero_le _, rfl, by rw [inn_zero]; exact HO.out, by rw [inn_zero]; exact HM.out, HE.out, HB.out⟩
   case round =>
    obtain ⟨j, hjl, rfl, ho, hm, he, hb⟩ := hrel; clear HB HE HO HM; obtain ⟨A8, k8, rfl, _⟩ := row_reads ho; have HB := Hd.mk hb; have HO := Hd.mk ho; have HM := Hd.mk hm; have HE : Hd (Env wr [⟨g8, 63, [.int .i64 (((Wn : Nat) : Int)), .int .i64 (((Hn : Nat) : Int))]⟩]) := ⟨he⟩; clear ho hm he hb; by_cases hj : j < l.length
    ·obtain ⟨m, hm⟩ : ∃ m, l[j]? = some m := ⟨_, List.getElem?_eq_getElem hj⟩; obtain ⟨ad, rfl⟩ := HRM.out.some_ hm; have HMJ := Hd.mk hm; have HAM := Hd.mk (HAL.out m (List.mem_of_getElem? hm)); have HOK2 := Hd.mk (HOK.out.take HAX.out HAL.out j); have h5122 := HOK2.out.few HS.out
     have hpr : (innB Wn Hn x (l.take j) o)[i]? = some x := by
      obtain ⟨t, e⟩ := inn_pre (W := Wn) (H := Hn) x (l.take j) o; rw [← e, List.getElem?_append_left hi]; exact HX.out
     have hi2 := (List.getElem?_eq_some_iff.1 hpr).1; obtain ⟨a8, rfl⟩ := (ownS_rd HO.out).some_ hpr; have HPR := Hd.mk hpr; have HIN := Hd.mk (inn_succ (W := Wn) (H := Hn) (x := x) (o := o) hm); clear hm hpr; generalize hcur : innB Wn Hn x (l.take j) o = cur at *; go_upto_region 11 with fail
     refine wp_region_vd 3 [46, 47, 13] [] [2] 65 [.int .i64 0, .int .i64 0, .int .i64 0, .bool false] [isV (.pointer (some (ad.add (j * 4)))), isV (.agg #[.int .i64 m.x, .int .i64 m.y, .int .i64 m.t, .bool m.f]), SP.any] (by rfl) alloc_M ?_ ?_
     ·intro qi qh qA aa wx hb hs hd
      match qi, qh, qA with
      | 0, _, _ => exact aL (op_run rfl (op_idxVM hj rfl (hs 42 rfl) (hs 44 rfl) _) rfl) | 1, _, _ => exact aL (op_ldvVM rfl rfl (hd 0 rfl) ((HRM.out.to (bel_then HB.out hb)).at_ HMJ.out)) | 2, _, h => cases h | qi + 3, h, _ => omega
     intro vs X1 hb hv hal hne; have HL0 := Hd.mk (HE.out.lt); have HBW := HB; replace HB := Hd.mk (bel_then HB.out hb); replace HE := Hd.mk (HE.out.to hb); have HML := Hd.mk HM.out.lt; replace HM := Hd.mk (HM.out.to hb); have HOL := Hd.mk HO.out.lt; replace HO := Hd.mk (HO.out.to hb); have e47 : vs 47 = .agg #[.int .i64 m.x, .int .i64 m.y, .int .i64 m.t, .bool m.f] := hv 1 (by decide) rfl; obtain ⟨g13, e13, l13, b13⟩ : ∃ g, vs 13 = .pointer (some ⟨g, 0, none⟩) ∧ _ := hal 2 rfl; replace HE : Hd (Env X1 [⟨g8, 63, [.int .i64 (((Wn : Nat) : Int)), .int .i64 (((Hn : Nat) : Int))]⟩, ⟨g13, 65, [.int .i64 0, .int .i64 0, .int .i64 0, .bool false]⟩]) := ⟨Env.addne (e := ⟨g13, 65, [.int .i64 0, .int .i64 0, .int .i64 0, .bool false]⟩) HE.out b13 (fun e' he => Nat.ne_of_lt (Nat.lt_of_lt_of_le (HL0.out e' he) l13))⟩; have HMG13 : Hd (bm < g13) := ⟨Nat.lt_of_lt_of_le HML.out l13⟩; have HOG13 : Hd (∀ k, (Value.slice (some a8) cur.length k8).ownBlock = some k → k < g13) := ⟨fun k hk => Nat.lt_of_lt_of_le (HOL.out k hk).2 l13⟩; have G13 : Hd (w.heap.size ≤ g13) := ⟨Nat.le_trans HBW.out.size l13⟩; simp only [PA, e47, e13]; clear hv hal hne hb HL0 HBW e47 e13 l13 b13 HML HOL; refine wpList_st rfl rfl rfl rfl rfl (sto_M (HE.out.get 1 rfl)) ?_; have HE' : Env (putL X1 g13 0 [.int .i64 m.x, .int .i64 m.y, .int .i64 m.t, .bool m.f]) [⟨g8, 63, [.int .i64 (((Wn : Nat) : Int)), .int .i64 (((Hn : Nat) : Int))]⟩, ⟨g13, 65, [.int .i64 m.x, .int .i64 m.y, .int .i64 m.t, .bool m.f]⟩] := HE.out.putF 1 rfl rfl; have HB' := putL_below (show w.heap.size ≤ g13 from G13.out) [.int .i64 m.x, .int .i64 m.y, .int .i64 m.t, .bool m.f] _ 0 HB.out; replace HM := Hd.mk (HM.out.put (vs := [.int .i64 m.x, .int .i64 m.y, .int .i64 m.t, .bool m.f]) (o := 0) HMG13.out); replace HO := Hd.mk (HO.out.put (vs := [.int .i64 m.x, .int .i64 m.y, .int .i64 m.t, .bool m.f]) (o := 0) HOG13.out); generalize putL X1 g13 0 [.int .i64 m.x, .int .i64 m.y, .int .i64 m.t, .bool m.f] = X2 at *; replace HE := Hd.mk HE'; replace HB := Hd.mk HB'; clear HE' HB'; go_upto_region 12 with fail
     refine wp_region_vs 8 [48, 49, 50, 51, 52, 53, 54, 14] [2, 3] [7] 65 [.int .i64 0, .int .i64 0, .int .i64 0, .bool false] [isV (.agg #[.int .i64 (((Wn : Nat) : Int)), .int .i64 (((Hn : Nat) : Int))]), isV (.agg #[.int .i64 m.x, .int .i64 m.y, .int .i64 m.t, .bool m.f]), isV (.slice (some a8) cur.length k8), qI ((i : Nat) : Int), isV (.pointer (some (a8.add (i * 4)))), isV (.agg #[.int .i64 x.x, .int .i64 x.y, .int .i64 x.t, .bool x.f]), isV (.agg #[.int .i64 ((aftM Wn Hn m x).x), .int .i64 ((aftM Wn Hn m x).y), .int .i64 ((aftM Wn Hn m x).t), .bool ((aftM Wn Hn m x).f)]), SP.any] (by kernel_rfl) (by kernel_rfl) (by kernel_rfl) (by rfl) alloc_M (fun d v c a w h => by cases d <;> exact h) ?_ ?_
     ·intro qi qh qA aa wx hb hs hd
      match qi, qh, qA with
      | 0, _, _ => exact op_ldZ rfl rfl (hs 8 rfl) ((HE.out.to hb).get 0 rfl) | 1, _, _ => exact op_ldM rfl rfl (hs 13 rfl) ((HE.out.to hb).get 1 rfl) | 2, _, _ => exact op_mv rfl (hs 9 rfl) | 3, _, _ => exact op_mv rfl (hs 11 rfl) | 4, _, _ => exact op_run rfl (op_idxVM hi2 rfl (hd 2 rfl) (hd 3 rfl) _) rfl | 5, _, _ => exact op_ldvVM rfl rfl (hd 4 rfl) ((ownS_rd (HO.out.to hb)).at_ HPR.out) | 6, _, _ => exact op_call3 rfl rfl Tryz.call53 (by rw [(show aa.eval (.tmp 48) = .agg #[.int .i64 (((Wn : Nat) : Int)), .int .i64 (((Hn : Nat) : Int))] from (hd 0 rfl)), (show aa.eval (.tmp 49) = .agg #[.int .i64 m.x, .int .i64 m.y, .int .i64 m.t, .bool m.f] from (hd 1 rfl)), (show aa.eval (.tmp 53) = .agg #[.int .i64 x.x, .int .i64 x.y, .int .i64 x.t, .bool x.f] from (hd 5 rfl))]; exact after_got Wn Hn m.x m.y m.t x.x x.y x.t m.f x.f HAM.out.okm HAX.out.okm _) | 7, _, h => cases h | qi + 8, h, _ => omega
     intro vs X3 hb hv hal hne; have HL0 := Hd.mk (HE.out.lt); have HBW := HB; replace HB := Hd.mk (bel_then HB.out hb); replace HE := Hd.mk (HE.out.to hb); have HML := Hd.mk HM.out.lt; replace HM := Hd.mk (HM.out.to hb); have HOL := Hd.mk HO.out.lt; replace HO := Hd.mk (HO.out.to hb); have e54 : vs 54 = .agg #[.int .i64 ((aftM Wn Hn m x).x), .int .i64 ((aftM Wn Hn m x).y), .int .i64 ((aftM Wn Hn m x).t), .bool ((aftM Wn Hn m x).f)] := hv 6 (by decide) rfl; obtain ⟨g14, e14, l14, b14⟩ : ∃ g, vs 14 = .pointer (some ⟨g, 0, none⟩) ∧ _ := hal 7 rfl; replace HE : Hd (Env X3 [⟨g8, 63, [.int .i64 (((Wn : Nat) : Int)), .int .i64 (((Hn : Nat) : Int))]⟩, ⟨g13, 65, [.int .i64 m.x, .int .i64 m.y, .int .i64 m.t, .bool m.f]⟩, ⟨g14, 65, [.int .i64 0, .int .i64 0, .int .i64 0, .bool false]⟩]) := ⟨Env.addne (e := ⟨g14, 65, [.int .i64 0, .int .i64 0, .int .i64 0, .bool false]⟩) HE.out b14 (fun e' he => Nat.ne_of_lt (Nat.lt_of_lt_of_le (HL0.out e' he) l14))⟩; have HMG14 : Hd (bm < g14) := ⟨Nat.lt_of_lt_of_le HML.out l14⟩; have HOG14 : Hd (∀ k, (Value.slice (some a8) cur.length k8).ownBlock = some k → k < g14) := ⟨fun k hk => Nat.lt_of_lt_of_le (HOL.out k hk).2 l14⟩; have G14 : Hd (w.heap.size ≤ g14) := ⟨Nat.le_trans HBW.out.size l14⟩; simp only [PA, e54, e14]; clear hv hal hne hb HL0 HBW e54 e14 l14 b14 HML HOL; refine wpList_st rfl rfl rfl rfl rfl (sto_M (HE.out.get 2 rfl)) ?_; have HE' : Env (putL X3 g14 0 [.int .i64 ((aftM Wn Hn m x).x), .int .i64 ((aftM Wn Hn m x).y), .int .i64 ((aftM Wn Hn m x).t), .bool ((aftM Wn Hn m x).f)]) [⟨g8, 63, [.int .i64 (((Wn : Nat) : Int)), .int .i64 (((Hn : Nat) : Int))]⟩, ⟨g13, 65, [.int .i64 m.x, .int .i64 m.y, .int .i64 m.t, .bool m.f]⟩, ⟨g14, 65, [.int .i64 ((aftM Wn Hn m x).x), .int .i64 ((aftM Wn Hn m x).y), .int .i64 ((aftM Wn Hn m x).t), .bool ((aftM Wn Hn m x).f)]⟩] := HE.out.putF 2 rfl rfl; have HB' := putL_below (show w.heap.size ≤ g14 from G14.out) [.int .i64 ((aftM Wn Hn m x).x), .int .i64 ((aftM Wn Hn m x).y), .int .i64 ((aftM Wn Hn m x).t), .bool ((aftM Wn Hn m x).f)] _ 0 HB.out; replace HM := Hd.mk (HM.out.put (vs := [.int .i64 ((aftM Wn Hn m x).x), .int .i64 ((aftM Wn Hn m x).y), .int .i64 ((aftM Wn Hn m x).t), .bool ((aftM Wn Hn m x).f)]) (o := 0) HMG14.out); replace HO := Hd.mk (HO.out.put (vs := [.int .i64 ((aftM Wn Hn m x).x), .int .i64 ((aftM Wn Hn m x).y), .int .i64 ((aftM Wn Hn m x).t), .bool ((aftM Wn Hn m x).f)]) (o := 0) HOG14.out); generalize putL X3 g14 0 [.int .i64 ((aftM Wn Hn m x).x), .int .i64 ((aftM Wn Hn m x).y), .int .i64 ((aftM Wn Hn m x).t), .bool ((aftM Wn Hn m x).f)] = X4 at *; replace HE := Hd.mk HE'; replace HB := Hd.mk HB'; clear HE' HB'; cases hin : memB (aftM Wn Hn m x) cur
     ·have HIB := Hd.mk hin; clear hin; go_upto_region 13 with fail
      refine wp_region_vd 4 [55, 56, 57, 58] [0, 3] [] 63 [.int .i64 0, .int .i64 0] [isV (.map (some bm)), isV (.agg #[.int .i64 ((aftM Wn Hn m x).x), .int .i64 ((aftM Wn Hn m x).y), .int .i64 ((aftM Wn Hn m x).t), .bool ((aftM Wn Hn m x).f)]), qF, qT] (by rfl) alloc_Z ?_ ?_
      ·intro qi qh qA aa wx hb hs hd
       match qi, qh, qA with
       | 0, _, _ => exact aL (op_mv rfl (hs 10 rfl)) | 1, _, _ => exact aL (op_ldM rfl rfl (hs 14 rfl) ((HE.out.to hb).get 2 rfl)) | 2, _, _ => exact aL (wp_b (bool_eq HIB.out) (op_lookM (m := (aftM Wn Hn m x)) rfl rfl (hd 0 rfl) (hd 1 rfl) (HM.out.to hb) (aft_al HAM.out HAX.out).wf)) | 3, _, _ => exact aL ⟨_, op_not rfl (hd 2 rfl), rfl⟩ | qi + 4, h, _ => omega
      intro vs X5 hb hv hal hne; replace HB := Hd.mk (bel_then HB.out hb); replace HE := Hd.mk (HE.out.to hb); have HML := Hd.mk HM.out.lt; replace HM := Hd.mk (HM.out.to hb); have HOL := Hd.mk HO.out.lt; replace HO := Hd.mk (HO.out.to hb); have e58 : vs 58 = .bool true := hv 3 (by decide) rfl; simp only [PA, e58]; clear hv hal hne hb e58 HML HOL; go_upto_region 14 with fail
      refine wp_region_vd 2 [59, 60] [0] [] 63 [.int .i64 0, .int .i64 0] [isV (.map (some bm)), isV (.agg #[.int .i64 ((aftM Wn Hn m x).x), .int .i64 ((aftM Wn Hn m x).y), .int .i64 ((aftM Wn Hn m x).t), .bool ((aftM Wn Hn m x).f)])] (by rfl) alloc_Z ?_ ?_
      ·intro qi qh qA aa wx hb hs hd
       match qi, qh, qA with
       | 0, _, _ => exact aL (op_mv rfl (hs 10 rfl)) | 1, _, _ => exact aL (op_ldM rfl rfl (hs 14 rfl) ((HE.out.to hb).get 2 rfl)) | qi + 2, h, _ => omega
      intro vs X6 hb hv hal hne; replace HB := Hd.mk (bel_then HB.out hb); replace HE := Hd.mk (HE.out.to hb); have HML := Hd.mk HM.out.lt; replace HM := Hd.mk (HM.out.to hb); have HOL := Hd.mk HO.out.lt; replace HO := Hd.mk (HO.out.to hb); have e59 : vs 59 = .map (some bm) := hv 0 (by decide) rfl; have e60 : vs 60 = .agg #[.int .i64 ((aftM Wn Hn m x).x), .int .i64 ((aftM Wn Hn m x).y), .int .i64 ((aftM Wn Hn m x).t), .bool ((aftM Wn Hn m x).f)] := hv 1 (by decide) rfl; simp only [PA, e59, e60]; clear hv hal hne hb e59 e60 HML HOL; refine wpList_mapM (m := (aftM Wn Hn m x)) rfl rfl rfl rfl rfl rfl HM.out (aft_al HAM.out HAX.out).wf (by unfold maxLen; omega) ?_; intro wm hm1 hg1; have HO1 := ownS_map HO.out hg1 HM.out; have HE1 := HE.out.grownM hg1 (mapM_is HM.out); have HB1 := HB.out.grown hg1 HB.out.size (fun z hz => by cases hz; exact HBM.out); replace HE := Hd.mk HE1; replace HB := Hd.mk HB1; replace HO := Hd.mk HO1; replace HM := Hd.mk hm1; clear HE1 HB1 HO1 hm1 hg1; have k26a := HE.out.cell 2 0 rfl rfl; have k26b := HE.out.cell 2 1 rfl rfl; have k26c := HE.out.cell 2 2 rfl rfl; have k26d := HE.out.cell 2 3 rfl rfl; have HXS := Nat.le_trans HB.out.size (Nat.le_refl _); obtain ⟨i0, hi0, hz0, hz1, hz2⟩ := info_parts Tryz.info_smove; go_wp2_with (first | (at_builtin; refine wpList_append_own _ rfl (.tmp 61) (.tmp 63) 29 rfl w.heap.size 65 i0 (.agg #[.int .i64 0, .int .i64 0, .int .i64 0, .bool false]) 4 32 Tryz.underlying29 hi0 hz0 hz1 hz2 rfl (by decide) (.slice (some a8) cur.length k8) cur.length (mcells cur) rfl (HO.out.to (below_alloc (Below.refl _ _) _)) ⟨wm.heap.size, 0, none⟩ 1 1 [.int .i64 (aftM Wn Hn m x).x, .int .i64 (aftM Wn Hn m x).y, .int .i64 (aftM Wn Hn m x).t, .bool (aftM Wn Hn m x).f] rfl rfl ?c1 ?c2 ?c3 ?c4 ?c5 ?_) | fail)
      case c1 =>
       intro z u hz; rcases z with _ | _ | _ | _ | z <;> simp at hz <;> subst hz <;> simp [Addr.add]
      case c2 =>
       intro u hu; simp at hu; rcases hu with rfl | rfl | rfl | rfl <;> rfl
      case c3 => unfold maxLen; omega
      case c4 => omega
      case c5 => simp; omega
      intro v1 w1 hown1 hg1 _; have HB1 := (below_alloc HB.out _).grown hg1 (by simp; omega) (fun z hz => (HO.out.lt z hz).1)
      have HE1 := Env.grownBy_ (HE.out.alloc_ _) hg1 (fun e he => blk_row (HE.out.mem he) HO.out (by
       rcases List.mem_cons.1 he with rfl | he
       ·exact .inl (show 63 ≠ 65 from by decide)
       rcases List.mem_cons.1 he with rfl | he
       ·exact .inr HOG13.out
       rw [List.mem_singleton.1 he]
       exact .inr HOG14.out))
      have HM1 := mapM_own (HM.out.to (below_alloc (Below.refl _ _) _)) hg1 (HO.out.to (below_alloc (Below.refl _ _) _)); have HIN1 : innB Wn Hn x (l.take (j + 1)) o = cur ++ [(aftM Wn Hn m x)] := by rw [HIN.out, add_yes HIB.out]
      have HO1 : OwnS w.heap.size w1 v1 (innB Wn Hn x (l.take (j + 1)) o) := by
       rw [HIN1]; unfold OwnS; rw [mcells_add, List.length_append]; exact hown1
      have HM2 : MapM w1 bm (innB Wn Hn x (l.take (j + 1)) o) := by rw [HIN1]; exact HM1
      replace HB := Hd.mk HB1; replace HO := Hd.mk HO1; replace HE := Hd.mk HE1; replace HM := Hd.mk HM2; clear HB1 HO1 HE1 HM1 HM2 hown1 hg1; go_wp2_with fail
      go_roundw
      case rel => exact ⟨j + 1, by omega, by go_num, HO.out, HM.out, Env.front (L := [⟨g8, 63, [.int .i64 (((Wn : Nat) : Int)), .int .i64 (((Hn : Nat) : Int))]⟩]) HE.out, HB.out⟩
      case measure => simp [intOf]; omega
     have HIB := Hd.mk hin; clear hin; go_upto_region 13 with fail
     refine wp_region_vd 4 [55, 56, 57, 58] [0, 3] [] 63 [.int .i64 0, .int .i64 0] [isV (.map (some bm)), isV (.agg #[.int .i64 ((aftM Wn Hn m x).x), .int .i64 ((aftM Wn Hn m x).y), .int .i64 ((aftM Wn Hn m x).t), .bool ((aftM Wn Hn m x).f)]), qT, qF] (by rfl) alloc_Z ?_ ?_
     ·intro qi qh qA aa wx hb hs hd
      match qi, qh, qA with
      | 0, _, _ => exact aL (op_mv rfl (hs 10 rfl)) | 1, _, _ => exact aL (op_ldM rfl rfl (hs 14 rfl) ((HE.out.to hb).get 2 rfl)) | 2, _, _ => exact aL (wp_b (bool_eq HIB.out) (op_lookM (m := (aftM Wn Hn m x)) rfl rfl (hd 0 rfl) (hd 1 rfl) (HM.out.to hb) (aft_al HAM.out HAX.out).wf)) | 3, _, _ => exact aL ⟨_, op_not rfl (hd 2 rfl), rfl⟩ | qi + 4, h, _ => omega
     intro vs X5 hb hv hal hne; replace HB := Hd.mk (bel_then HB.out hb); replace HE := Hd.mk (HE.out.to hb); have HML := Hd.mk HM.out.lt; replace HM := Hd.mk (HM.out.to hb); have HOL := Hd.mk HO.out.lt; replace HO := Hd.mk (HO.out.to hb); have e58 : vs 58 = .bool false := hv 3 (by decide) rfl; simp only [PA, e58]; clear hv hal hne hb e58 HML HOL; have HIN1 : innB Wn Hn x (l.take (j + 1)) o = cur := by rw [HIN.out, add_no HIB.out]
     go_wp2_with fail
     go_roundw
     case rel => exact ⟨j + 1, by omega, by go_num, by rw [HIN1]; exact HO.out, by rw [HIN1]; exact HM.out, Env.front (L := [⟨g8, 63, [.int .i64 (((Wn : Nat) : Int)), .int .i64 (((Hn : Nat) : Int))]⟩]) HE.out, HB.out⟩
     case measure => simp [intOf]; omega
    have e1 : j = l.length := by omega
    have HO1 : OwnS w.heap.size wr (.slice A8 (innB Wn Hn x (l.take j) o).length k8) (innB Wn Hn x l o) := by
     have h := HO.out; rw [e1, List.take_length] at h ⊢; exact h
    have HM1 : MapM wr bm (innB Wn Hn x l o) := by
     have h := HM.out; rw [e1, List.take_length] at h; exact h
    clear e1; go_wp2_with fail
    go_roundw
    case rel => exact ⟨i + 1, _, HBF.out.step HX.out, by go_num, HO1, HM1, HE.out, HB.out⟩
    case measure => simp [intOf]; omega
  have e1 : o.length = i := by omega
  have HCL := Hd.mk (bfsL_eq HBF.out e1); obtain ⟨g9, c9, r9, e9, hlo9, hbk⟩ := own_blk HO.out HOK.out.ne; cases e9
  have HBK := Hd.mk hbk; have HLO9 := Hd.mk hlo9; clear e1 hbk hlo9; go_upto_region 7 with fail
  refine wp_region_vd 4 [36, 37, 38, 39] [0, 1, 3] [] 63 [.int .i64 0, .int .i64 0] [qI ((i : Nat) : Int), isV (.slice (some ⟨g9, 0, none⟩) o.length k9), qI ((o.length : Nat) : Int), qF] (by rfl) alloc_Z ?_ ?_
  ·intro qi qh qA aa wx hb hs hd
   match qi, qh, qA with
   | 0, _, _ => exact aL (op_mv rfl (hs 11 rfl)) | 1, _, _ => exact aL (op_mv rfl (hs 9 rfl)) | 2, _, _ => exact aL (op_lenvVM rfl rfl (hd 1 rfl)) | 3, _, _ => exact aL (pure_b (bool_eq (decide_eq_false (by omega))) (⟨_, op_lssI rfl (hd 0 rfl) (hd 2 rfl), rfl⟩)) | qi + 4, h, _ => omega
  intro vs X1 hb hv hal hne; replace HB := Hd.mk (bel_then HB.out hb); replace HE := Hd.mk (HE.out.to hb); have HML := Hd.mk HM.out.lt; replace HM := Hd.mk (HM.out.to hb); have HOL := Hd.mk HO.out.lt; replace HO := Hd.mk (HO.out.to hb); have e39 : vs 39 = .bool false := hv 3 (by decide) rfl; simp only [PA, e39]; clear hv hal hne hb e39 HML HOL; obtain ⟨g8', c8', r8', e8, hlo8, hbk8⟩ := own_blk HO.out HOK.out.ne; cases e8
  have hso := sortM_calls g9 k9 o r8' X1 hbk8 (by omega); go_wp2_with (first | (go_at_call 54; refine hso.mono ?_; rintro e1 w1 ⟨rfl, ms1, hp1, hs1, hb1, hg1⟩) | fail)
  refine bodyPost_ret (v := .tuple #[.slice (some ⟨g9, 0, none⟩) o.length k9, .int .i64 0]) (by simp [results, Tryz.results20, go_sem]) rfl ?_; have HB2 := HB.out.grown hg1 HB.out.size (fun z hz => by cases hz; exact hlo8)
  have hcl : ms1 = closeL Wn Hn l := by
   unfold closeL; rw [HCL.out]; exact sorted_moves HS.out HOK.out hp1 hs1
  exact ⟨_, rfl, HB2, _, _, rfl, ⟨some ⟨g9, 0, none⟩, k9, by rw [← hcl, hp1.length_eq], by rw [← hcl]; exact ⟨rd_blk hb1, fun ad e => by cases e; exact ⟨_, hb1⟩⟩⟩, rfl⟩
end Go.Proofs.YtddbmckbankmeaaGreat
set_option linter.unusedVariables false
set_option linter.unusedSimpArgs false
set_option linter.unnecessarySimpa false
namespace Go.Proofs.YtddbmckbankmeaaGreat
def dgs (K : Nat) : Nat → Nat → List Int
 | 0, _ => []
 | N + 1, n => dgs K N (n / K) ++ [((n % K : Nat) : Int)]
def Col (K N : Nat) (xs : List Int) : Prop := xs.length = N ∧ ∀ x ∈ xs, 0 ≤ x ∧ x < K
def valD (K : Nat) (xs : List Int) : Nat := xs.foldl (fun a x => a * K + x.toNat) 0
theorem valD_snoc (K : Nat) (xs : List Int) (x : Int) : valD K (xs ++ [x]) = valD K xs * K + x.toNat := by unfold valD; rw [List.foldl_append]; rfl
theorem dgs_len (K : Nat) : ∀ N n, (dgs K N n).length = N
 | 0, _ => rfl
 | N + 1, n => by rw [dgs, List.length_append, dgs_len K N]; rfl
theorem dgs_col {K : Nat} (hK : 0 < K) : ∀ N n, Col K N (dgs K N n)
 | 0, n => ⟨rfl, fun x hx => by cases hx⟩
 | N + 1, n => by
  refine ⟨dgs_len K _ _, fun x hx => ?_⟩; rw [dgs] at hx; rcases List.mem_append.1 hx with hx | hx
  ·exact (dgs_col hK N (n / K)).2 x hx
  rw [List.mem_singleton.1 hx]; have := Nat.mod_lt n hK; omega
theorem val_dgs {K : Nat} (hK : 0 < K) : ∀ N n, n < K ^ N → valD K (dgs K N n) = n
 | 0, n, h => by simp at h; subst h; rfl
 | N + 1, n, h => by
  rw [dgs, valD_snoc, val_dgs hK N (n / K) (Nat.div_lt_of_lt_mul (by rw [Nat.pow_succ, Nat.mul_comm] at h; exact h)), Int.toNat_natCast]; rw [Nat.mul_comm]; exact Nat.div_add_mod n K
theorem dgs_val {K : Nat} (hK : 0 < K) : ∀ {N : Nat} {xs : List Int}, Col K N xs → valD K xs < K ^ N ∧ dgs K N (valD K xs) = xs
 | 0, xs, h => by
  obtain rfl : xs = [] := List.eq_nil_of_length_eq_zero h.1; exact ⟨by simp [valD], rfl⟩
 | N + 1, xs, h => by
  rcases List.eq_nil_or_concat xs with rfl | ⟨ys, x, rfl⟩
  ·have := h.1; simp at this
  rw [List.concat_eq_append] at h ⊢; have hx := h.2 x (by simp); obtain ⟨h1, h2⟩ := dgs_val hK (N := N) (xs := ys) ⟨by have := h.1; simpa using this, fun y hy => h.2 y (by simp [hy])⟩; have hlt : x.toNat < K := by omega
  rw [valD_snoc]; refine ⟨?_, ?_⟩
  ·rw [Nat.pow_succ]; have : (valD K ys + 1) * K ≤ K ^ N * K := Nat.mul_le_mul_right _ h1; rw [Nat.add_mul, Nat.one_mul] at this; omega
  rw [dgs, Nat.add_comm (valD K ys * K), Nat.add_mul_div_right _ _ hK, Nat.div_eq_of_lt hlt, Nat.zero_add, h2, Nat.add_mul_mod_self_right, Nat.mod_eq_of_lt hlt]; congr 2
  omega
def allC (K N : Nat) : List (List Int) := (List.range (K ^ N)).map (dgs K N)
theorem mem_allC {K N : Nat} (hK : 0 < K) {xs : List Int} : xs ∈ allC K N ↔ Col K N xs := by
 unfold allC; rw [List.mem_map]; constructor
 ·rintro ⟨n, _, rfl⟩; exact dgs_col hK N n
 intro h; obtain ⟨h1, h2⟩ := dgs_val hK h; exact ⟨_, List.mem_range.2 h1, h2⟩
theorem allC_nodup {K N : Nat} (hK : 0 < K) : (allC K N).Nodup := nodup_map List.nodup_range (fun a ha b hb e => by
 rw [← val_dgs hK N a (List.mem_range.1 ha), ← val_dgs hK N b (List.mem_range.1 hb), e])
section
variable {W H : Int} {ms : List Mv} {m : Mv} {xs z : List Int} {K N : Nat}
def repB (W H : Int) (ms : List Mv) (xs : List Int) : Bool := !(ms.any fun m => decide (cmpL (apM W H m xs) xs < 0))
def listL (W H : Int) (ms : List Mv) (K N : Nat) : List (List Int) := (allC K N).filter (repB W H ms)
theorem ap_mem (h : Al W H m) (hl : (xs.length : Int) = W * H) : ∀ x ∈ apM W H m xs, x ∈ xs := fun x hx => by
 obtain ⟨i, hi, e⟩ := List.mem_iff_getElem.1 hx; rw [apM_length] at hi; have hi2 : (0 : Int) ≤ i ∧ (i : Int) < W * H := ⟨by omega, by omega⟩; have hj := cell_lt (inv_al h) (i : Int); have h1 := apM_at (xs := xs) h hl hj; rw [cell_inv h hi2, Int.toNat_natCast] at h1; have hi3 : i < (apM W H m xs).length := by rw [apM_length]; exact hi
 have hj2 : (cellM W H (invM W H m) (i : Int)).toNat < xs.length := by omega
 rw [List.getD_eq_getElem?_getD, List.getElem?_eq_getElem hi3, List.getD_eq_getElem?_getD, List.getElem?_eq_getElem hj2] at h1; rw [← e, show (apM W H m xs)[i] = xs[(cellM W H (invM W H m) (i : Int)).toNat] from h1]; exact List.getElem_mem _
theorem ap_col (h : Al W H m) (hN : (N : Int) = W * H) (hc : Col K N xs) : Col K N (apM W H m xs) :=
 ⟨by rw [apM_length]; exact hc.1, fun x hx => hc.2 x (ap_mem h (by rw [hc.1]; exact hN) x hx)⟩
theorem col_valid (hs : sizeB W H = true) (hN : (N : Int) = W * H) (hK : K ≤ 8) (hc : Col K N xs) : validB W H xs = true := by
 have hcl := hc.1; unfold validB; rw [hs]; simp only [Bool.true_and, Bool.and_eq_true, decide_eq_true_eq, Bool.not_eq_true']; refine ⟨by omega, ?_⟩; rw [List.any_eq_false]; intro x hx; have := hc.2 x hx; unfold badc; simp; omega
theorem orb_self (g : Gp W H ms) (hv : validB W H xs = true) : xs ∈ orbL W H xs ms := by
 have hs := sizeB_bounds (valid_size hv); exact orb_mem.2 ⟨_, g.one, apM_zero hs.1.1 hs.2.1 (valid_len hv) (g.al _ g.one)⟩
theorem head_le (hz : z ∈ orbL W H xs ms) : cmpL (leastL W H xs ms) z ≤ 0 := by
 have hr := orb_rises W H xs ms; unfold leastL
 cases ho : orbL W H xs ms with
 | nil => rw [ho] at hz; cases hz
 | cons a l =>
  rw [ho] at hz hr; rw [List.pairwise_cons] at hr; show cmpL a z ≤ 0; rcases List.mem_cons.1 hz with rfl | hz
  ·rw [cmpL_refl]; exact Int.le_refl _
  exact Int.le_of_lt (hr.1 z hz)
theorem rep_iff (g : Gp W H ms) (hv : validB W H xs = true) : repB W H ms xs = true ↔ leastL W H xs ms = xs := by
 have hnz : 0 < ms.length := List.length_pos_of_mem g.one; unfold repB; rw [Bool.not_eq_true', List.any_eq_false]; constructor
 ·intro h; obtain ⟨m, hm, e⟩ := orb_mem.1 (least_mem (W := W) (H := H) (xs := xs) hnz); have h1 := h m hm; rw [e] at h1; have h2 := head_le (orb_self g hv); simp at h1; exact cmpL_zero (by omega)
 intro h m hm; have h1 := head_le (W := W) (H := H) (xs := xs) (ms := ms) (orb_mem.2 ⟨m, hm, rfl⟩); rw [h] at h1; have h2 := cmpL_neg xs (apM W H m xs); simp; omega
theorem orb_col (g : Gp W H ms) (hN : (N : Int) = W * H) (hc : Col K N xs) (hz : z ∈ orbL W H xs ms) : Col K N z := by
 obtain ⟨m, hm, rfl⟩ := orb_mem.1 hz; exact ap_col (g.al m hm) hN hc
theorem mem_listL (hK : 0 < K) : z ∈ listL W H ms K N ↔ Col K N z ∧ repB W H ms z = true := by
 unfold listL; rw [List.mem_filter, mem_allC hK]
theorem least_list (g : Gp W H ms) (hs : sizeB W H = true) (hN : (N : Int) = W * H) (hK : 0 < K) (hK8 : K ≤ 8) (hc : Col K N xs) : leastL W H xs ms ∈ listL W H ms K N := by
 have hnz : 0 < ms.length := List.length_pos_of_mem g.one; have hv := col_valid hs hN hK8 hc; have hm := least_mem (W := W) (H := H) (xs := xs) hnz; have hc2 := orb_col g hN hc hm; exact (mem_listL hK).2 ⟨hc2, (rep_iff g (col_valid hs hN hK8 hc2)).2 (orb_least g hv hm)⟩
theorem listL_nodup (W H : Int) (ms : List Mv) (N : Nat) (hK : 0 < K) : (listL W H ms K N).Nodup := (allC_nodup hK).filter _
end
end Go.Proofs.YtddbmckbankmeaaGreat
