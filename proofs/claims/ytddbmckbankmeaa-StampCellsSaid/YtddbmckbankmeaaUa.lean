/- Lists of moves that are read; the conversion of a list of moves. -/
import Derived.Test.YtddbmckbankmeaaTe
import Derived.DataElems
set_option linter.unusedVariables false
set_option linter.unusedSimpArgs false
namespace Go.Proofs.Ytddbmckbankmeaa
open Go.RowKit
/-- A list of moves as it lies in memory. -/
def RdM (w : World) (A : Option Addr) (ms : List Mv) : Prop := ∀ (j : Nat) (m : Mv), ms[j]? = some m → ∃ ad, A = some ad ∧ w.cell? (ad.add (j * 4)) = some (.int .i64 m.x) ∧ w.cell? ((ad.add (j * 4)).add 1) = some (.int .i64 m.y) ∧ w.cell? ((ad.add (j * 4)).add 2) = some (.int .i64 m.t) ∧ w.cell? ((ad.add (j * 4)).add 3) = some (.bool m.f)
section
variable {w w' : World} {A : Option Addr} {ad : Addr} {ms : List Mv} {m : Mv} {lo lo' g k j n : Nat} {v : Value} {vs : List Value} {o : Nat}
theorem RdM.to (h : RdM w A ms) (hb : Below w.heap.size w w') : RdM w' A ms := fun j m hj => by
  obtain ⟨ad, e, h0, h1, h2, h3⟩ := h j m hj
  have key : ∀ {p : Addr} {u : Value}, w.cell? p = some u → w'.cell? p = some u := fun {p u} hp => (hb.cell (World.block_lt_of_cell? w _ hp)).trans hp
  exact ⟨ad, e, key h0, key h1, key h2, key h3⟩
theorem RdM.at_ (h : RdM w (some ad) ms) (hj : ms[j]? = some m) : w.cell? (ad.add (j * 4)) = some (.int .i64 m.x) ∧ w.cell? ((ad.add (j * 4)).add 1) = some (.int .i64 m.y) ∧ w.cell? ((ad.add (j * 4)).add 2) = some (.int .i64 m.t) ∧ w.cell? ((ad.add (j * 4)).add 3) = some (.bool m.f) := by
  obtain ⟨ad', e, h⟩ := h j m hj
  cases e
  exact h
theorem RdM.some_ (h : RdM w A ms) (hj : ms[j]? = some m) : ∃ ad, A = some ad := let ⟨ad, e, _⟩ := h j m hj; ⟨ad, e⟩
/-- The same, of the program's own moves. -/
def OwnS (lo : Nat) (w : World) (v : Value) (ms : List Mv) : Prop := w.ownsRow lo 31 4 v ms.length (mcells ms)
theorem OwnS.to (h : OwnS lo w v ms) (hb : Below w.heap.size w w') : OwnS lo w' v ms := own_to h hb
theorem OwnS.put (h : OwnS lo w v ms) (hlt : ∀ k, v.ownBlock = some k → k < g) : OwnS lo (putL w g o vs) v ms := own_put hlt h
theorem OwnS.lt (h : OwnS lo w v ms) : ∀ k, v.ownBlock = some k → lo ≤ k ∧ k < w.heap.size := World.ownsRow.lt h
theorem row_reads {e : TypeId} (h : w.ownsRow lo e 4 v ms.length (mcells ms)) : ∃ A k, v = .slice A ms.length k ∧ RdM w A ms ∧ ms.length ≤ k ∧ (A = none → k = 0) ∧ (∀ ad, A = some ad → lo ≤ ad.block) := by
  have h' := h
  rcases h.2 with ⟨rfl, hn⟩ | ⟨g', cap, cur, rfl, hlo, hgg, hnc, _⟩
  · refine ⟨none, 0, by rw [hn], fun j m hj => ?_, by omega, fun _ => rfl, fun ad e => by cases e⟩
    have : ms = [] := List.eq_nil_of_length_eq_zero hn
    rw [this] at hj
    cases hj
  · refine ⟨_, cap, rfl, fun j m hj => ⟨_, rfl, ?_⟩, hnc, fun e => by (cases e), fun ad e => by (cases e; exact hlo)⟩
    have hc := World.ownsRow.cells h' (g := g') rfl
    have hm := mcells_at hj
    have ha : ∀ q : Nat, (⟨g', 0, none⟩ : Addr).add q = ⟨g', q, none⟩ := fun q => by unfold Addr.add; split <;> simp_all
    rw [Addr.add_add, Addr.add_add, Addr.add_add]
    exact ⟨hc _ _ hm.1, hc _ _ hm.2.1, hc _ _ hm.2.2.1, hc _ _ hm.2.2.2⟩
def isSs (lo : Nat) (ms : List Mv) : SP := ⟨fun v w => OwnS lo w v ms, fun v w w' h hb => h.to hb⟩
end
section
variable {Q : Exit → Act → World → Prop} {o : Oper} {a : Act} {w : World} {d j n k : Nat} {x y : Operand} {m : Mv} {ad : Addr} {A : Option Addr}
theorem op_asgE {P : Program} {y : Operand} {v : Value} (ho : o.op = .assign y) (hx : a.eval y = v) (w : World) : (execOp a.eval o).run P w = .ok (.value v) w := by
  unfold execOp
  simp only [ho, hx, Sem.run_pure]
theorem op_idxVN (h1 : j < n) (ho : o.op = .indexAddr 51 x y) (hx : a.eval x = .slice (some ad) n k) (hy : a.eval y = .int .i64 (j : Int)) (w : World) : (execOp a.eval o).run Try.prog w = .ok (.value (.pointer (some (ad.add (j * 4))))) w := by
  generalize a.eval = ev at hx hy ⊢
  unfold execOp
  simp only [ho, hx, hy]
  simp [go_sem, h1]
theorem op_ldvVN {p : Addr} (ho : o.op = .load 26 x) (hd : o.dst = some d) (hx : a.eval x = .pointer (some p))
    (h : w.cell? p = some (.int .i64 m.x) ∧ w.cell? (p.add 1) = some (.int .i64 m.y) ∧ w.cell? (p.add 2) = some (.int .i64 m.t) ∧ w.cell? (p.add 3) = some (.bool m.f)) :
    o.wp Try.prog a w (Post a w d (isV (.agg #[.int .i64 m.x, .int .i64 m.y, .int .i64 m.t, .bool m.f])).p) Q := by
  obtain ⟨h0, h1, h2, h3⟩ := h
  simp only [Addr.add_succ'] at h1 h2 h3
  refine op_load (v := .agg #[.int .i64 m.x, .int .i64 m.y, .int .i64 m.t, .bool m.f]) ho hd hx ?_ rfl
  simp [go_sem, h0, h1, h2, h3]
theorem op_lenvVN (ho : o.op = .call { callee := .builtin .len, args := #[x], argTypes := #[51] }) (hd : o.dst = some d) (hx : a.eval x = .slice A n k) : o.wp Try.prog a w (Post a w d (isV (.int .i64 ((n : Nat) : Int))).p) Q := by
  refine op_run (v := .int .i64 (n : Int)) hd ?_ rfl
  generalize a.eval = ev at hx ⊢
  unfold execOp
  simp only [ho]
  simp [go_sem, hx]
theorem op_idxVM (h1 : j < n) (ho : o.op = .indexAddr 54 x y) (hx : a.eval x = .slice (some ad) n k) (hy : a.eval y = .int .i64 (j : Int)) (w : World) : (execOp a.eval o).run Try.prog w = .ok (.value (.pointer (some (ad.add (j * 4))))) w := by
  generalize a.eval = ev at hx hy ⊢
  unfold execOp
  simp only [ho, hx, hy]
  simp [go_sem, h1]
theorem op_ldvVM {p : Addr} (ho : o.op = .load 31 x) (hd : o.dst = some d) (hx : a.eval x = .pointer (some p))
    (h : w.cell? p = some (.int .i64 m.x) ∧ w.cell? (p.add 1) = some (.int .i64 m.y) ∧ w.cell? (p.add 2) = some (.int .i64 m.t) ∧ w.cell? (p.add 3) = some (.bool m.f)) :
    o.wp Try.prog a w (Post a w d (isV (.agg #[.int .i64 m.x, .int .i64 m.y, .int .i64 m.t, .bool m.f])).p) Q := by
  obtain ⟨h0, h1, h2, h3⟩ := h
  simp only [Addr.add_succ'] at h1 h2 h3
  refine op_load (v := .agg #[.int .i64 m.x, .int .i64 m.y, .int .i64 m.t, .bool m.f]) ho hd hx ?_ rfl
  simp [go_sem, h0, h1, h2, h3]
theorem op_lenvVM (ho : o.op = .call { callee := .builtin .len, args := #[x], argTypes := #[54] }) (hd : o.dst = some d) (hx : a.eval x = .slice A n k) : o.wp Try.prog a w (Post a w d (isV (.int .i64 ((n : Nat) : Int))).p) Q := by
  refine op_run (v := .int .i64 (n : Int)) hd ?_ rfl
  generalize a.eval = ev at hx ⊢
  unfold execOp
  simp only [ho]
  simp [go_sem, hx]
end
theorem Try.info_smove : (Try.prog.info? 31).map (fun i => (i.zero, i.size, i.bytes)) = some (some (.agg #[.int .i64 0, .int .i64 0, .int .i64 0, .bool false]), 4, 32) := by kernel_rfl

set_option maxRecDepth 100000 in
set_option maxHeartbeats 1000000 in
theorem moves_got (A : Option Addr) (k : Nat) (ms : List Mv) (w : World) (hrm : RdM w A ms) (hln : ms.length ≤ 9223372036854775807) :
    Calls Try.prog 30 #[.slice A ms.length k] w (Got w (isSs w.heap.size (ms.take 521)).p) := by
  have HRM := Hd.mk hrm
  clear hrm
  go_enter Try.func30, Try.ntmps30
  go_upto_region 2 with fail
  have HE : Hd (Env w []) := ⟨trivial⟩
  have HB : Hd (Below w.heap.size w w) := ⟨Below.refl _ _⟩
  refine wp_region_vd 3 [6, 7, 8] [0, 2] [] 84 [.int .i64 0, .int .i64 0] [isV (.slice A ms.length k), isV (.int .i64 (((ms.length : Nat) : Int))), isV (.int .i64 0)] (by rfl) alloc_Z ?_ ?_
  · intro qi qh qA aa wx hb hs hd
    match qi, qh, qA with
    | 0, _, _ => exact .inl ⟨rfl, op_mv rfl (hs 0 rfl)⟩
    | 1, _, _ => exact .inl ⟨rfl, op_lenvVN rfl rfl (hd 0 rfl)⟩
    | 2, _, _ => exact .inl ⟨rfl, op_mv rfl rfl⟩
    | qi + 3, h, _ => omega
  · intro vs X1 hb hv hal hne
    have HL0 := Hd.mk (HE.out.lt)
    have HBW := HB
    replace HB := Hd.mk (bel_then HB.out hb)
    replace HE : Hd (Env X1 []) := ⟨HE.out.to hb⟩
    have HLS := HL0
    have e6 : vs 6 = .slice A ms.length k := hv 0 (by decide) rfl
    have e7 : vs 7 = .int .i64 (((ms.length : Nat) : Int)) := hv 1 (by decide) rfl
    have e8 : vs 8 = .int .i64 0 := hv 2 (by decide) rfl
    simp only [putAll, List.foldl_cons, List.foldl_nil, Act.put, List.setIfInBounds_toArray, List.set_cons_succ, List.set_cons_zero, List.drop_succ_cons, List.drop_zero, e6, e7, e8]
    clear hv hal hne hb HL0 HBW HLS e6 e7 e8
    have HO : Hd (OwnS w.heap.size X1 (.slice none 0 0) []) := ⟨World.ownsRow_nil _ _ _ _⟩
    go_wp2_with fail
    go_loopw [3, 8] (fun s3 s8 wr => ∃ j : Nat, j ≤ ms.length ∧ j ≤ 521 ∧ s8 = .int .i64 j ∧ OwnS w.heap.size wr s3 (ms.take j) ∧ Below w.heap.size w wr) (fun _ s8 _ => ms.length - (intOf s8).toNat)
    case atStart => exact ⟨0, Nat.zero_le _, by omega, rfl, HO.out, HB.out⟩
    case round =>
      obtain ⟨j, hjl, hj5, rfl, ho, hb⟩ := hrel
      clear HB HE HO
      have HB := Hd.mk hb
      have HO := Hd.mk ho
      have HE : Hd (Env wr []) := ⟨trivial⟩
      clear ho hb
      by_cases hj : j < ms.length
      · obtain ⟨m, hm⟩ : ∃ m, ms[j]? = some m := ⟨_, List.getElem?_eq_getElem hj⟩
        obtain ⟨ad, rfl⟩ := HRM.out.some_ hm
        have HM := Hd.mk hm
        clear hm
        go_upto_region 4 with fail
        refine wp_region_vd 4 [10, 11, 12, 5] [0] [3] 26 [.int .i64 0, .int .i64 0, .int .i64 0, .bool false] [isV (.int .i64 (((j : Nat) : Int))), isV (.pointer (some (ad.add (j * 4)))), isV (.agg #[.int .i64 m.x, .int .i64 m.y, .int .i64 m.t, .bool m.f]), SP.any] (by rfl) alloc_N ?_ ?_
        · intro qi qh qA aa wx hb hs hd
          match qi, qh, qA with
          | 0, _, _ => exact .inl ⟨rfl, op_mv rfl (hs 8 rfl)⟩
          | 1, _, _ => exact .inl ⟨rfl, op_run rfl (op_idxVN hj rfl (hs 6 rfl) (hs 8 rfl) _) rfl⟩
          | 2, _, _ => exact .inl ⟨rfl, op_ldvVN rfl rfl (hd 1 rfl) ((HRM.out.to (bel_then HB.out hb)).at_ HM.out)⟩
          | 3, _, h => cases h
          | qi + 4, h, _ => omega
        · intro vs X1 hb hv hal hne
          have HL0 := Hd.mk (HE.out.lt)
          have HBW := HB
          replace HB := Hd.mk (bel_then HB.out hb)
          replace HE : Hd (Env X1 []) := ⟨HE.out.to hb⟩
          have HLS := HL0
          have HOL := Hd.mk HO.out.lt
          replace HO := Hd.mk (HO.out.to hb)
          have e10 : vs 10 = .int .i64 (((j : Nat) : Int)) := hv 0 (by decide) rfl
          have e12 : vs 12 = .agg #[.int .i64 m.x, .int .i64 m.y, .int .i64 m.t, .bool m.f] := hv 2 (by decide) rfl
          obtain ⟨g5, e5, l5, b5⟩ : ∃ g, vs 5 = .pointer (some ⟨g, 0, none⟩) ∧ _ := hal 3 rfl
          replace HE : Hd (Env X1 [⟨g5, 26, [.int .i64 0, .int .i64 0, .int .i64 0, .bool false]⟩]) := ⟨Env.addne (e := ⟨g5, 26, [.int .i64 0, .int .i64 0, .int .i64 0, .bool false]⟩) HE.out b5 (fun e' he => Nat.ne_of_lt (Nat.lt_of_lt_of_le (HL0.out e' he) l5))⟩
          have HOG5 : Hd (∀ k, u3.ownBlock = some k → k < g5) := ⟨fun k hk => Nat.lt_of_lt_of_le (HOL.out k hk).2 l5⟩
          have G5 : Hd (w.heap.size ≤ g5) := ⟨Nat.le_trans HBW.out.size l5⟩
          simp only [putAll, List.foldl_cons, List.foldl_nil, Act.put, List.setIfInBounds_toArray, List.set_cons_succ, List.set_cons_zero, List.drop_succ_cons, List.drop_zero, e10, e12, e5]
          generalize vs 11 = s11
          clear hv hal hne hb HL0 HBW HLS e10 e12 e5 l5 b5 HOL
          refine wpList_run rfl (op_asgE (v := .int .i64 (((j : Nat) : Int))) rfl rfl _) ?_
          simp only [Act.put, List.setIfInBounds_toArray, List.set_cons_succ, List.set_cons_zero]
          refine wpList_st rfl rfl rfl rfl rfl (sto_N (HE.out.get 0 rfl)) ?_
          have HE' : Env (putL X1 g5 0 [.int .i64 m.x, .int .i64 m.y, .int .i64 m.t, .bool m.f]) [⟨g5, 26, [.int .i64 m.x, .int .i64 m.y, .int .i64 m.t, .bool m.f]⟩] := HE.out.putF 0 rfl rfl
          have HB' := putL_below (show w.heap.size ≤ g5 from G5.out) [.int .i64 m.x, .int .i64 m.y, .int .i64 m.t, .bool m.f] _ 0 HB.out
          replace HO := Hd.mk (HO.out.put (vs := [.int .i64 m.x, .int .i64 m.y, .int .i64 m.t, .bool m.f]) (o := 0) HOG5.out)
          generalize putL X1 g5 0 [.int .i64 m.x, .int .i64 m.y, .int .i64 m.t, .bool m.f] = X2 at *
          replace HE := Hd.mk HE'
          replace HB := Hd.mk HB'
          clear HE' HB'
          by_cases h5 : 520 < j
          · skip
            go_upto_region 5 with fail
            refine wp_region_vd 2 [13, 14] [0, 1] [] 84 [.int .i64 0, .int .i64 0] [isV (.int .i64 (((j : Nat) : Int))), isV (.bool true)] (by rfl) alloc_Z ?_ ?_
            · intro qi qh qA aa wx hb hs hd
              match qi, qh, qA with
              | 0, _, _ => exact .inl ⟨rfl, op_mv rfl (hs 4 rfl)⟩
              | 1, _, _ => exact .inl ⟨rfl, pure_b (bool_eq (decide_eq_true (by omega))) (⟨_, op_gtrI rfl (hd 0 rfl) rfl, rfl⟩)⟩
              | qi + 2, h, _ => omega
            · intro vs X3 hb hv hal hne
              have HL0 := Hd.mk (HE.out.lt)
              have HBW := HB
              replace HB := Hd.mk (bel_then HB.out hb)
              replace HE : Hd (Env X3 [⟨g5, 26, [.int .i64 m.x, .int .i64 m.y, .int .i64 m.t, .bool m.f]⟩]) := ⟨HE.out.to hb⟩
              have HLS := HL0
              have HOL := Hd.mk HO.out.lt
              replace HO := Hd.mk (HO.out.to hb)
              have e14 : vs 14 = .bool true := hv 1 (by decide) rfl
              simp only [putAll, List.foldl_cons, List.foldl_nil, Act.put, List.setIfInBounds_toArray, List.set_cons_succ, List.set_cons_zero, List.drop_succ_cons, List.drop_zero, e14]
              generalize vs 13 = s13
              clear hv hal hne hb HL0 HBW HLS e14 HOL
              have e5 : j = 521 := by omega
              have HO1 : OwnS w.heap.size X3 u3 (ms.take 521) := by rw [← e5]; exact HO.out
              go_wp2_with fail
              go_ret
              exact ⟨u3, rfl, HB.out, HO1⟩
          · skip
            go_upto_region 5 with fail
            refine wp_region_vd 2 [13, 14] [0, 1] [] 84 [.int .i64 0, .int .i64 0] [isV (.int .i64 (((j : Nat) : Int))), isV (.bool false)] (by rfl) alloc_Z ?_ ?_
            · intro qi qh qA aa wx hb hs hd
              match qi, qh, qA with
              | 0, _, _ => exact .inl ⟨rfl, op_mv rfl (hs 4 rfl)⟩
              | 1, _, _ => exact .inl ⟨rfl, pure_b (bool_eq (decide_eq_false (by omega))) (⟨_, op_gtrI rfl (hd 0 rfl) rfl, rfl⟩)⟩
              | qi + 2, h, _ => omega
            · intro vs X3 hb hv hal hne
              have HL0 := Hd.mk (HE.out.lt)
              have HBW := HB
              replace HB := Hd.mk (bel_then HB.out hb)
              replace HE : Hd (Env X3 [⟨g5, 26, [.int .i64 m.x, .int .i64 m.y, .int .i64 m.t, .bool m.f]⟩]) := ⟨HE.out.to hb⟩
              have HLS := HL0
              have HOL := Hd.mk HO.out.lt
              replace HO := Hd.mk (HO.out.to hb)
              have e14 : vs 14 = .bool false := hv 1 (by decide) rfl
              simp only [putAll, List.foldl_cons, List.foldl_nil, Act.put, List.setIfInBounds_toArray, List.set_cons_succ, List.set_cons_zero, List.drop_succ_cons, List.drop_zero, e14]
              generalize vs 13 = s13
              clear hv hal hne hb HL0 HBW HLS e14 HOL
              have k26a := HE.out.cell 0 0 rfl rfl
              have k26b := HE.out.cell 0 1 rfl rfl
              have k26c := HE.out.cell 0 2 rfl rfl
              have k26d := HE.out.cell 0 3 rfl rfl
              have HLN : (ms.take j).length ≤ 1024 := by rw [List.length_take]; omega
              have HXS := Nat.le_trans HB.out.size (Nat.le_refl _)
              obtain ⟨i0, hi0, hz0, hz1, hz2⟩ := info_parts Try.info_smove
              have HTK := Hd.mk (show ms.take (j + 1) = ms.take j ++ [m] from by rw [List.take_add_one, HM.out]; rfl)
              generalize hms : ms.take j = zs at HO HLN HTK
              clear hms
              go_wp2_with (first | (go_at_call 14; refine (move_got m.x m.y m.t m.f _).mono ?_; rintro e w2 ⟨v2, rfl, hb2, rfl⟩; have HE2 := HE.out.to hb2) | (at_builtin; refine wpList_append_own _ rfl (.tmp 15) (.tmp 18) 54 rfl w.heap.size 31 i0 (.agg #[.int .i64 0, .int .i64 0, .int .i64 0, .bool false]) 4 32 Try.underlying54 hi0 hz0 hz1 hz2 rfl (by decide) u3 zs.length (mcells zs) rfl ((HO.out.to hb2).alloc _) ⟨w2.heap.size, 0, none⟩ 1 1 [.int .i64 m.x, .int .i64 m.y, .int .i64 m.t, .bool m.f] rfl rfl ?c1 ?c2 ?c3 ?c4 ?c5 ?_) | fail)
              case c1 =>
                intro z u hz
                rcases z with _ | _ | _ | _ | z <;> simp at hz <;> subst hz <;> simp [Addr.add]
              case c2 =>
                intro u hu
                simp at hu
                rcases hu with rfl | rfl | rfl | rfl <;> rfl
              case c3 => unfold maxLen; omega
              case c4 => omega
              case c5 => have := hb2.size; simp; omega
              intro v1 w1 hown1 hg1 _
              have HB2 := bel_then HB.out hb2
              have HB1 := (below_alloc HB2 _).grown hg1 (by have := HB2.size; simp; omega) (fun z hz => (HO.out.lt z hz).1)
              have HO1 : OwnS w.heap.size w1 v1 (ms.take (j + 1)) := by
                rw [HTK.out]
                unfold OwnS
                rw [mcells_add, List.length_append]
                exact hown1
              replace HB := Hd.mk HB1
              replace HO := Hd.mk HO1
              clear HB1 HO1 hown1 hg1 HE HE2 HB2
              go_wp2_with fail
              go_roundw
              case rel => exact ⟨j + 1, by omega, by omega, by go_num, HO.out, HB.out⟩
              case measure => simp [intOf]; omega
      · have e1 : j = ms.length := by omega
        have HO1 : OwnS w.heap.size wr u3 (ms.take 521) := by
          have h := HO.out
          rw [List.take_of_length_le (by omega)] at h
          rwa [List.take_of_length_le (by omega)]
        go_wp2_with fail
        go_ret
        exact ⟨u3, rfl, HB.out, HO1⟩
end Go.Proofs.Ytddbmckbankmeaa
