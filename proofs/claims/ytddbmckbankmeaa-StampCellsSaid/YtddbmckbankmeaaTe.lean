/- The reference's Inverse. -/
import Derived.Test.YtddbmckbankmeaaTd
set_option linter.unusedVariables false
set_option linter.unusedSimpArgs false
namespace Go.Proofs.Ytddbmckbankmeaa
open Go.RowKit
section
variable {W H : Int} {m n : Mv}
theorem al_zero (h : Al W H m) : Al W H ⟨0, 0, 0, false⟩ := by
  have h1 := h.w
  have h2 := h.h
  refine ⟨h1, h2, ⟨Int.le_refl _, ?_⟩, ⟨Int.le_refl _, ?_⟩, ⟨Int.le_refl _, ?_⟩, .inl rfl⟩ <;> simp <;> omega
theorem zero_l (h : Al W H m) : aftM W H ⟨0, 0, 0, false⟩ m = m := by
  have h1 := h.x
  have h2 := h.y
  have h3 := h.t
  obtain ⟨x, y, t, f⟩ := m
  simp only at h1 h2 h3
  unfold aftM act
  simp [trn]
  exact ⟨Int.emod_eq_of_lt h1.1 h1.2, Int.emod_eq_of_lt h2.1 h2.2, Int.emod_eq_of_lt h3.1 h3.2⟩
theorem zero_r (h : Al W H m) : aftM W H m ⟨0, 0, 0, false⟩ = m := by
  have h1 := h.x
  have h2 := h.y
  have h3 := h.t
  obtain ⟨x, y, t, f⟩ := m
  simp only at h1 h2 h3
  unfold aftM act
  simp only [trn_zero]
  have e3 : (t + if f = true then 4 - 0 else 0) % 4 = t := by cases f <;> simp <;> omega
  rw [e3, Int.zero_add, Int.zero_add, Int.emod_eq_of_lt h1.1 h1.2, Int.emod_eq_of_lt h2.1 h2.2]
  cases f <;> rfl
theorem inv_unique (h : Al W H m) (k : Al W H n) (e : aftM W H n m = ⟨0, 0, 0, false⟩) : n = invM W H m := by
  have h1 := aft_assoc k h (inv_al h)
  rw [e, inv_two h, zero_l (inv_al h), zero_r k] at h1
  exact h1.symm
end
theorem mcells_at : ∀ {ms : List Mv} {j : Nat} {m : Mv}, ms[j]? = some m → (mcells ms)[j * 4]? = some (.int .i64 m.x) ∧ (mcells ms)[j * 4 + 1]? = some (.int .i64 m.y) ∧ (mcells ms)[j * 4 + 2]? = some (.int .i64 m.t) ∧ (mcells ms)[j * 4 + 3]? = some (.bool m.f)
  | [], j, m, h => by simp at h
  | n :: ms, 0, m, h => by
    simp only [List.getElem?_cons_zero, Option.some.injEq] at h
    subst h
    exact ⟨rfl, rfl, rfl, rfl⟩
  | n :: ms, j + 1, m, h => by
    rw [List.getElem?_cons_succ] at h
    have ih := mcells_at h
    have e : mcells (n :: ms) = [.int .i64 n.x, .int .i64 n.y, .int .i64 n.t, .bool n.f] ++ mcells ms := rfl
    have key : ∀ c, (mcells (n :: ms))[(j + 1) * 4 + c]? = (mcells ms)[j * 4 + c]? := by
      intro c
      rw [e, List.getElem?_append_right (by simp; omega)]
      congr 1
      simp
      omega
    exact ⟨(key 0).trans ih.1, (key 1).trans ih.2.1, (key 2).trans ih.2.2.1, (key 3).trans ih.2.2.2⟩
def isMs (lo : Nat) (ms : List Mv) : SP := ⟨fun v w => OwnM lo w v ms, fun v w w' h hb => h.to hb⟩
section
variable {lo lo' g k j : Nat} {w w' : World} {v : Value} {ms : List Mv} {m : Mv}
theorem OwnM.lower (h : lo ≤ lo') (ho : OwnM lo' w v ms) : OwnM lo w v ms := by
  refine ⟨ho.1, ?_⟩
  rcases ho.2 with hn | ⟨g', cap, cur, rfl, hb, hgg, rest⟩
  · exact .inl hn
  · exact .inr ⟨g', cap, cur, rfl, by omega, hgg, rest⟩
theorem got_ms {P : Program} {f : Nat} {vs : Array Value} (h : lo ≤ lo') (hc : Calls P f vs w (Got w (isMs lo' ms).p)) : Calls P f vs w (Got w (isMs lo ms).p) :=
  hc.mono fun e w' ⟨v, h1, h2, h3⟩ => ⟨v, h1, h2, OwnM.lower h h3⟩
theorem own_shape (h : OwnM lo w v ms) (hne : ms ≠ []) : ∃ g k, v = .slice (some ⟨g, 0, none⟩) ms.length k := by
  rcases h.2 with ⟨_, hn⟩ | ⟨g', cap, cur, rfl, _⟩
  · exact absurd (List.eq_nil_of_length_eq_zero hn) hne
  · exact ⟨g', cap, rfl⟩
theorem own_len (h : OwnM lo w v ms) : ∃ A k, v = .slice A ms.length k := by
  rcases h.2 with ⟨rfl, hn⟩ | ⟨g', cap, cur, rfl, _⟩
  · exact ⟨none, 0, by rw [hn]⟩
  · exact ⟨_, cap, rfl⟩
theorem own_at (h : OwnM lo w (.slice (some ⟨g, 0, none⟩) ms.length k) ms) (hx : ms[j]? = some m) :
    w.cell? ⟨g, j * 4, none⟩ = some (.int .i64 m.x) ∧ w.cell? ⟨g, j * 4 + 1, none⟩ = some (.int .i64 m.y) ∧ w.cell? ⟨g, j * 4 + 2, none⟩ = some (.int .i64 m.t) ∧ w.cell? ⟨g, j * 4 + 3, none⟩ = some (.bool m.f) := by
  have hc := World.ownsRow.cells h (g := g) rfl
  have hm := mcells_at hx
  have ha : ∀ q : Nat, (⟨g, 0, none⟩ : Addr).add q = ⟨g, q, none⟩ := fun q => by unfold Addr.add; split <;> simp_all
  refine ⟨?_, ?_, ?_, ?_⟩
  · have := hc _ _ hm.1; rwa [ha] at this
  · have := hc _ _ hm.2.1; rwa [ha] at this
  · have := hc _ _ hm.2.2.1; rwa [ha] at this
  · have := hc _ _ hm.2.2.2; rwa [ha] at this
theorem Env.front : ∀ {L L' : List Ent}, Env w (L ++ L') → Env w L
  | [], _, _ => trivial
  | e :: L, L', ⟨h1, h2, h3⟩ => ⟨h1, fun e' he => h2 e' (List.mem_append_left _ he), Env.front h3⟩
end
section
variable {Q : Exit → Act → World → Prop} {o : Oper} {a : Act} {w : World} {d g off j n k lo : Nat} {x y : Operand} {ty : TypeId} {m m' : Mv} {ms : List Mv} {P : Program}
theorem op_lenMs (ho : o.op = .call { callee := .builtin .len, args := #[x], argTypes := #[51] }) (hd : o.dst = some d) (hx : (isMs lo ms).p (a.eval x) w) : o.wp Try.prog a w (Post a w d (isV (.int .i64 ((ms.length : Nat) : Int))).p) Q := by
  obtain ⟨A, k, hx⟩ := own_len hx
  refine op_run (v := .int .i64 (ms.length : Int)) hd ?_ rfl
  generalize a.eval = ev at hx ⊢
  unfold execOp
  simp only [ho]
  simp [go_sem, hx]
theorem op_idxM (h1 : j < n) (ho : o.op = .indexAddr 51 x y) (hx : a.eval x = .slice (some ⟨g, 0, none⟩) n k) (hy : a.eval y = .int .i64 (j : Int)) (w : World) : (execOp a.eval o).run Try.prog w = .ok (.value (.pointer (some ⟨g, j * 4, none⟩))) w := by
  generalize a.eval = ev at hx hy ⊢
  unfold execOp
  simp only [ho, hx, hy]
  have ha : ∀ q : Nat, (⟨g, 0, none⟩ : Addr).add q = ⟨g, q, none⟩ := fun q => by unfold Addr.add; split <;> simp_all
  simp [go_sem, h1, ha]
theorem op_ldMs (ho : o.op = .load 26 x) (hd : o.dst = some d) (hx : a.eval x = .pointer (some ⟨g, off, none⟩))
    (h : w.cell? ⟨g, off, none⟩ = some (.int .i64 m.x) ∧ w.cell? ⟨g, off + 1, none⟩ = some (.int .i64 m.y) ∧ w.cell? ⟨g, off + 2, none⟩ = some (.int .i64 m.t) ∧ w.cell? ⟨g, off + 3, none⟩ = some (.bool m.f)) :
    o.wp Try.prog a w (Post a w d (isV (.agg #[.int .i64 m.x, .int .i64 m.y, .int .i64 m.t, .bool m.f])).p) Q := by
  obtain ⟨h0, h1, h2, h3⟩ := h
  refine op_load (v := .agg #[.int .i64 m.x, .int .i64 m.y, .int .i64 m.t, .bool m.f]) ho hd hx ?_ rfl
  simp [go_sem, h0, h1, h2, h3]
theorem op_eqlN_ne (hne : m ≠ m') (ho : o.op = .binOp .eql 26 x y ty) (hx : a.eval x = .agg #[.int .i64 m.x, .int .i64 m.y, .int .i64 m.t, .bool m.f]) (hy : a.eval y = .agg #[.int .i64 m'.x, .int .i64 m'.y, .int .i64 m'.t, .bool m'.f]) (w : World) :
    (execOp a.eval o).run Try.prog w = .ok (.value (.bool false)) w := by
  generalize a.eval = ev at hx hy ⊢
  unfold execOp
  simp only [ho, hx, hy]
  have key : ¬ (m.x = m'.x ∧ m.y = m'.y ∧ m.t = m'.t ∧ m.f = m'.f) := by
    intro ⟨e1, e2, e3, e4⟩
    apply hne
    obtain ⟨x, y, t, f⟩ := m
    obtain ⟨x', y', t', f'⟩ := m'
    simp only at e1 e2 e3 e4
    subst e1 e2 e3 e4
    rfl
  cases h1 : m.x == m'.x <;> cases h2 : m.y == m'.y <;> cases h3 : m.t == m'.t <;> cases h4 : m.f == m'.f <;> first
    | (exfalso; apply key; simp at h1 h2 h3 h4; exact ⟨h1, h2, h3, h4⟩)
    | simp [go_sem, h1, h2, h3, h4]
end
theorem rAfter_e {W H : Int} {m n q : Mv} (h : Al W H m) (k : Al W H n) (e : aftM W H m n = q) (w : World) : Calls Try.prog 28 #[.int .i64 W, .int .i64 H, .agg #[.int .i64 m.x, .int .i64 m.y, .int .i64 m.t, .bool m.f], .agg #[.int .i64 n.x, .int .i64 n.y, .int .i64 n.t, .bool n.f]] w
    (Got w (isV (.agg #[.int .i64 q.x, .int .i64 q.y, .int .i64 q.t, .bool q.f])).p) := by
  rw [← e]
  exact rAfter_got h k w

set_option maxRecDepth 100000 in
set_option maxHeartbeats 1000000 in
theorem rInv_got (Wn Hn : Nat) (m : Mv) (hal : Al Wn Hn m) (w : World) :
    Calls Try.prog 27 #[.int .i64 (((Wn : Nat) : Int)), .int .i64 (((Hn : Nat) : Int)), .agg #[.int .i64 m.x, .int .i64 m.y, .int .i64 m.t, .bool m.f]] w (Got w (isV (.agg #[.int .i64 ((invM Wn Hn m).x), .int .i64 ((invM Wn Hn m).y), .int .i64 ((invM Wn Hn m).t), .bool ((invM Wn Hn m).f)])).p) := by
  have HAL := Hd.mk hal
  have HMEM := Hd.mk (mem_moves (W := Wn) (H := Hn) hal.size)
  have HWn : Hd (1 ≤ Wn ∧ Wn ≤ 8) := ⟨by have := hal.w; omega⟩
  have HHn : Hd (1 ≤ Hn ∧ Hn ≤ 8) := ⟨by have := hal.h; omega⟩
  have HNE : Hd (mvs1 Wn Hn 2 ≠ []) := ⟨List.ne_nil_of_mem ((HMEM.out m).2 hal)⟩
  have hLN : (mvs1 Wn Hn 2).length ≤ 512 := len1 Wn Hn HWn.out.2 HHn.out.2 2
  clear hal
  go_enter Try.func27, Try.ntmps27
  go_upto_region 1 with fail
  obtain ⟨W0, hW0⟩ : ∃ W : World, W = (w.alloc (.cells #[.int .i64 m.x, .int .i64 m.y, .int .i64 m.t, .bool m.f] 26)).alloc (.cells #[.int .i64 0, .int .i64 0, .int .i64 0, .bool false] 26) := ⟨_, rfl⟩
  rw [← hW0]
  obtain ⟨he, hb⟩ := env_two hW0
  have HE := Hd.mk he
  have HB := Hd.mk hb
  clear he hb hW0
  refine wp_region_vd 5 [9, 10, 11, 12, 13] [0, 1, 4] [] 84 [.int .i64 0, .int .i64 0] [isV (.int .i64 (((Wn : Nat) : Int))), isV (.int .i64 (((Hn : Nat) : Int))), isMs w.heap.size ((mvs1 Wn Hn 2)), isV (.int .i64 ((((mvs1 Wn Hn 2).length : Nat) : Int))), isV (.int .i64 0)] (by rfl) alloc_Z ?_ ?_
  · intro qi qh qA aa wx hb hs hd
    match qi, qh, qA with
    | 0, _, _ => exact .inl ⟨rfl, op_mv rfl (hs 0 rfl)⟩
    | 1, _, _ => exact .inl ⟨rfl, op_mv rfl (hs 1 rfl)⟩
    | 2, _, _ => exact .inl ⟨rfl, op_call2 rfl rfl Try.call41 (by rw [show aa.eval (.tmp 9) = .int .i64 ((Wn : Nat) : Int) from hd 0 rfl, show aa.eval (.tmp 10) = .int .i64 ((Hn : Nat) : Int) from hd 1 rfl]; exact got_ms (Nat.le_trans HB.out.size hb.size) (rMoves_got Wn Hn HWn.out HHn.out _))⟩
    | 3, _, _ => exact .inl ⟨rfl, op_lenMs rfl rfl (hd 2 rfl)⟩
    | 4, _, _ => exact .inl ⟨rfl, op_mv rfl rfl⟩
    | qi + 5, h, _ => omega
  · intro vs X1 hb hv hal hne
    have HL0 := Hd.mk (HE.out.lt)
    have HBW := HB
    replace HB := Hd.mk (bel_then HB.out hb)
    replace HE : Hd (Env X1 [⟨w.heap.size, 26, [.int .i64 m.x, .int .i64 m.y, .int .i64 m.t, .bool m.f]⟩, ⟨w.heap.size + 1, 26, [.int .i64 0, .int .i64 0, .int .i64 0, .bool false]⟩]) := ⟨HE.out.to hb⟩
    have HLS := HL0
    have HO : Hd (OwnM w.heap.size X1 (vs 11) ((mvs1 Wn Hn 2))) := ⟨hv 2 (by decide) rfl⟩
    obtain ⟨gM, kM, e11⟩ := own_shape HO.out HNE.out
    rw [e11] at HO
    have e12 : vs 12 = .int .i64 ((((mvs1 Wn Hn 2).length : Nat) : Int)) := hv 3 (by decide) rfl
    have e13 : vs 13 = .int .i64 0 := hv 4 (by decide) rfl
    simp only [putAll, List.foldl_cons, List.foldl_nil, Act.put, List.setIfInBounds_toArray, List.set_cons_succ, List.set_cons_zero, List.drop_succ_cons, List.drop_zero, e11, e12, e13]
    generalize vs 9 = s9
    generalize vs 10 = s10
    clear hv hal hne hb HL0 HBW HLS e11 e12 e13
    go_wp2_with fail
    go_loopw [13] (fun s13 wr => ∃ j : Nat, j ≤ (mvs1 Wn Hn 2).length ∧ s13 = .int .i64 j ∧ (Env wr [⟨w.heap.size, 26, [.int .i64 m.x, .int .i64 m.y, .int .i64 m.t, .bool m.f]⟩, ⟨w.heap.size + 1, 26, [.int .i64 0, .int .i64 0, .int .i64 0, .bool false]⟩] ∧ OwnM w.heap.size wr (Value.slice (some ⟨gM, 0, none⟩) ((mvs1 Wn Hn 2)).length kM) (mvs1 Wn Hn 2) ∧ Below w.heap.size w wr) ∧ ∀ i x, i < j → (mvs1 Wn Hn 2)[i]? = some x → aftM Wn Hn x m ≠ ⟨0, 0, 0, false⟩) (fun s13 _ => (mvs1 Wn Hn 2).length - (intOf s13).toNat)
    case atStart => exact ⟨0, Nat.zero_le _, rfl, ⟨HE.out, HO.out, HB.out⟩, fun i x hi => by omega⟩
    case round =>
      obtain ⟨j, hjl, rfl, ⟨he, ho, hb⟩, hnv⟩ := hrel
      have HNV := Hd.mk hnv
      clear HB HE HO
      have HB := Hd.mk hb
      have HO := Hd.mk ho
      have HE : Hd (Env wr [⟨w.heap.size, 26, [.int .i64 m.x, .int .i64 m.y, .int .i64 m.t, .bool m.f]⟩, ⟨w.heap.size + 1, 26, [.int .i64 0, .int .i64 0, .int .i64 0, .bool false]⟩]) := ⟨he⟩
      clear ho hb he hnv
      by_cases hj : j < (mvs1 Wn Hn 2).length
      · obtain ⟨x, hx⟩ : ∃ x, (mvs1 Wn Hn 2)[j]? = some x := ⟨_, List.getElem?_eq_getElem hj⟩
        have HX : Hd (Al Wn Hn x) := ⟨(HMEM.out x).1 (List.mem_of_getElem? hx)⟩
        have HJX := Hd.mk hx
        clear hx
        go_upto_region 3 with fail
        refine wp_region_vd 3 [15, 16, 8] [] [2] 26 [.int .i64 0, .int .i64 0, .int .i64 0, .bool false] [isV (.pointer (some ⟨gM, j * 4, none⟩)), isV (.agg #[.int .i64 x.x, .int .i64 x.y, .int .i64 x.t, .bool x.f]), SP.any] (by rfl) alloc_N ?_ ?_
        · intro qi qh qA aa wx hb hs hd
          match qi, qh, qA with
          | 0, _, _ => exact .inl ⟨rfl, op_run rfl (op_idxM hj rfl (hs 11 rfl) (hs 13 rfl) _) rfl⟩
          | 1, _, _ => exact .inl ⟨rfl, op_ldMs rfl rfl (hd 0 rfl) (own_at (HO.out.to hb) HJX.out)⟩
          | 2, _, h => cases h
          | qi + 3, h, _ => omega
        · intro vs X2 hb hv hal hne
          have HL0 := Hd.mk (HE.out.lt)
          have HBW := HB
          replace HB := Hd.mk (bel_then HB.out hb)
          replace HE : Hd (Env X2 [⟨w.heap.size, 26, [.int .i64 m.x, .int .i64 m.y, .int .i64 m.t, .bool m.f]⟩, ⟨w.heap.size + 1, 26, [.int .i64 0, .int .i64 0, .int .i64 0, .bool false]⟩]) := ⟨HE.out.to hb⟩
          have HLS := HL0
          have HOL := Hd.mk HO.out.lt
          replace HO := Hd.mk (HO.out.to hb)
          have e16 : vs 16 = .agg #[.int .i64 x.x, .int .i64 x.y, .int .i64 x.t, .bool x.f] := hv 1 (by decide) rfl
          obtain ⟨g8, e8, l8, b8⟩ : ∃ g, vs 8 = .pointer (some ⟨g, 0, none⟩) ∧ _ := hal 2 rfl
          replace HE : Hd (Env X2 [⟨w.heap.size, 26, [.int .i64 m.x, .int .i64 m.y, .int .i64 m.t, .bool m.f]⟩, ⟨w.heap.size + 1, 26, [.int .i64 0, .int .i64 0, .int .i64 0, .bool false]⟩, ⟨g8, 26, [.int .i64 0, .int .i64 0, .int .i64 0, .bool false]⟩]) := ⟨Env.addne (e := ⟨g8, 26, [.int .i64 0, .int .i64 0, .int .i64 0, .bool false]⟩) HE.out b8 (fun e' he => Nat.ne_of_lt (Nat.lt_of_lt_of_le (HL0.out e' he) l8))⟩
          have HOG8 : Hd (∀ k, (Value.slice (some ⟨gM, 0, none⟩) ((mvs1 Wn Hn 2)).length kM).ownBlock = some k → k < g8) := ⟨fun k hk => Nat.lt_of_lt_of_le (HOL.out k hk).2 l8⟩
          have G8 : Hd (w.heap.size ≤ g8) := ⟨Nat.le_trans HBW.out.size l8⟩
          simp only [putAll, List.foldl_cons, List.foldl_nil, Act.put, List.setIfInBounds_toArray, List.set_cons_succ, List.set_cons_zero, List.drop_succ_cons, List.drop_zero, e16, e8]
          generalize vs 15 = s15
          clear hv hal hne hb HL0 HBW HLS e16 e8 l8 b8 HOL
          refine wpList_st rfl rfl rfl rfl rfl (sto_N (HE.out.get 2 rfl)) ?_
          have HE' : Env (putL X2 g8 0 [.int .i64 x.x, .int .i64 x.y, .int .i64 x.t, .bool x.f]) [⟨w.heap.size, 26, [.int .i64 m.x, .int .i64 m.y, .int .i64 m.t, .bool m.f]⟩, ⟨w.heap.size + 1, 26, [.int .i64 0, .int .i64 0, .int .i64 0, .bool false]⟩, ⟨g8, 26, [.int .i64 x.x, .int .i64 x.y, .int .i64 x.t, .bool x.f]⟩] := HE.out.putF 2 rfl rfl
          have HB' := putL_below (show w.heap.size ≤ g8 from G8.out) [.int .i64 x.x, .int .i64 x.y, .int .i64 x.t, .bool x.f] _ 0 HB.out
          replace HO := Hd.mk (HO.out.put (vs := [.int .i64 x.x, .int .i64 x.y, .int .i64 x.t, .bool x.f]) (o := 0) HOG8.out)
          generalize putL X2 g8 0 [.int .i64 x.x, .int .i64 x.y, .int .i64 x.t, .bool x.f] = X3 at *
          replace HE := Hd.mk HE'
          replace HB := Hd.mk HB'
          clear HE' HB'
          by_cases hz : aftM Wn Hn x m = ⟨0, 0, 0, false⟩
          · skip
            go_upto_region 4 with fail
            refine wp_region_vd 7 [17, 18, 19, 20, 21, 22, 23] [0, 1, 5, 6] [] 84 [.int .i64 0, .int .i64 0] [isV (.int .i64 (((Wn : Nat) : Int))), isV (.int .i64 (((Hn : Nat) : Int))), isV (.agg #[.int .i64 x.x, .int .i64 x.y, .int .i64 x.t, .bool x.f]), isV (.agg #[.int .i64 m.x, .int .i64 m.y, .int .i64 m.t, .bool m.f]), isV (.agg #[.int .i64 0, .int .i64 0, .int .i64 0, .bool false]), isV (.agg #[.int .i64 0, .int .i64 0, .int .i64 0, .bool false]), isV (.bool true)] (by rfl) alloc_Z ?_ ?_
            · intro qi qh qA aa wx hb hs hd
              match qi, qh, qA with
              | 0, _, _ => exact .inl ⟨rfl, op_mv rfl (hs 0 rfl)⟩
              | 1, _, _ => exact .inl ⟨rfl, op_mv rfl (hs 1 rfl)⟩
              | 2, _, _ => exact .inl ⟨rfl, op_ldN rfl rfl (hs 8 rfl) ((HE.out.to hb).get 2 rfl)⟩
              | 3, _, _ => exact .inl ⟨rfl, op_ldN rfl rfl (hs 5 rfl) ((HE.out.to hb).get 0 rfl)⟩
              | 4, _, _ => exact .inl ⟨rfl, op_call4 rfl rfl Try.call28 (by rw [show aa.eval (.tmp 17) = .int .i64 (((Wn : Nat) : Int)) from (hd 0 rfl), show aa.eval (.tmp 18) = .int .i64 (((Hn : Nat) : Int)) from (hd 1 rfl), show aa.eval (.tmp 19) = .agg #[.int .i64 x.x, .int .i64 x.y, .int .i64 x.t, .bool x.f] from (hd 2 rfl), show aa.eval (.tmp 20) = .agg #[.int .i64 m.x, .int .i64 m.y, .int .i64 m.t, .bool m.f] from (hd 3 rfl)]; exact rAfter_e HX.out HAL.out hz _)⟩
              | 5, _, _ => exact .inl ⟨rfl, ⟨_, op_b0N rfl, rfl⟩⟩
              | 6, _, _ => exact .inl ⟨rfl, ⟨_, op_eqlN rfl (hd 4 rfl) (hd 5 rfl), rfl⟩⟩
              | qi + 7, h, _ => omega
            · intro vs X4 hb hv hal hne
              have HL0 := Hd.mk (HE.out.lt)
              have HBW := HB
              replace HB := Hd.mk (bel_then HB.out hb)
              replace HE : Hd (Env X4 [⟨w.heap.size, 26, [.int .i64 m.x, .int .i64 m.y, .int .i64 m.t, .bool m.f]⟩, ⟨w.heap.size + 1, 26, [.int .i64 0, .int .i64 0, .int .i64 0, .bool false]⟩, ⟨g8, 26, [.int .i64 x.x, .int .i64 x.y, .int .i64 x.t, .bool x.f]⟩]) := ⟨HE.out.to hb⟩
              have HLS := HL0
              have HOL := Hd.mk HO.out.lt
              replace HO := Hd.mk (HO.out.to hb)
              have e23 : vs 23 = .bool true := hv 6 (by decide) rfl
              simp only [putAll, List.foldl_cons, List.foldl_nil, Act.put, List.setIfInBounds_toArray, List.set_cons_succ, List.set_cons_zero, List.drop_succ_cons, List.drop_zero, e23]
              generalize vs 17 = s17
              generalize vs 18 = s18
              generalize vs 19 = s19
              generalize vs 20 = s20
              generalize vs 21 = s21
              generalize vs 22 = s22
              clear hv hal hne hb HL0 HBW HLS e23 HOL
              go_upto_region 5 with fail
              refine wp_region_vd 1 [24] [] [] 84 [.int .i64 0, .int .i64 0] [isV (.agg #[.int .i64 x.x, .int .i64 x.y, .int .i64 x.t, .bool x.f])] (by rfl) alloc_Z ?_ ?_
              · intro qi qh qA aa wx hb hs hd
                match qi, qh, qA with
                | 0, _, _ => exact .inl ⟨rfl, op_ldN rfl rfl (hs 8 rfl) ((HE.out.to hb).get 2 rfl)⟩
                | qi + 1, h, _ => omega
              · intro vs X5 hb hv hal hne
                have HL0 := Hd.mk (HE.out.lt)
                have HBW := HB
                replace HB := Hd.mk (bel_then HB.out hb)
                replace HE : Hd (Env X5 [⟨w.heap.size, 26, [.int .i64 m.x, .int .i64 m.y, .int .i64 m.t, .bool m.f]⟩, ⟨w.heap.size + 1, 26, [.int .i64 0, .int .i64 0, .int .i64 0, .bool false]⟩, ⟨g8, 26, [.int .i64 x.x, .int .i64 x.y, .int .i64 x.t, .bool x.f]⟩]) := ⟨HE.out.to hb⟩
                have HLS := HL0
                have e24 : vs 24 = .agg #[.int .i64 x.x, .int .i64 x.y, .int .i64 x.t, .bool x.f] := hv 0 (by decide) rfl
                simp only [putAll, List.foldl_cons, List.foldl_nil, Act.put, List.setIfInBounds_toArray, List.set_cons_succ, List.set_cons_zero, List.drop_succ_cons, List.drop_zero, e24]
                clear hv hal hne hb HL0 HBW HLS e24
                refine wpList_st rfl rfl rfl rfl rfl (sto_N (HE.out.get 1 rfl)) ?_
                have HE' : Env (putL X5 (w.heap.size + 1) 0 [.int .i64 x.x, .int .i64 x.y, .int .i64 x.t, .bool x.f]) [⟨w.heap.size, 26, [.int .i64 m.x, .int .i64 m.y, .int .i64 m.t, .bool m.f]⟩, ⟨w.heap.size + 1, 26, [.int .i64 x.x, .int .i64 x.y, .int .i64 x.t, .bool x.f]⟩, ⟨g8, 26, [.int .i64 x.x, .int .i64 x.y, .int .i64 x.t, .bool x.f]⟩] := HE.out.putF 1 rfl rfl
                have HB' := putL_below (show w.heap.size ≤ w.heap.size + 1 from by omega) [.int .i64 x.x, .int .i64 x.y, .int .i64 x.t, .bool x.f] _ 0 HB.out
                generalize putL X5 (w.heap.size + 1) 0 [.int .i64 x.x, .int .i64 x.y, .int .i64 x.t, .bool x.f] = X6 at *
                replace HE := Hd.mk HE'
                replace HB := Hd.mk HB'
                clear HE' HB'
                have HXI := Hd.mk (inv_unique HAL.out HX.out hz)
                go_wp2_with fail
                have k0a := HE.out.cell 1 0 rfl rfl
                have k0b := HE.out.cell 1 1 rfl rfl
                have k0c := HE.out.cell 1 2 rfl rfl
                have k0d := HE.out.cell 1 3 rfl rfl
                refine bodyPost_ret (v := .agg #[.int .i64 x.x, .int .i64 x.y, .int .i64 x.t, .bool x.f]) (by simp [results, Try.results27, go_sem, k0a, k0b, k0c, k0d]) rfl ?_
                exact ⟨_, rfl, HB.out, by rw [← HXI.out]; rfl⟩
          · skip
            go_upto_region 4 with fail
            refine wp_region_vd 7 [17, 18, 19, 20, 21, 22, 23] [0, 1, 5, 6] [] 84 [.int .i64 0, .int .i64 0] [isV (.int .i64 (((Wn : Nat) : Int))), isV (.int .i64 (((Hn : Nat) : Int))), isV (.agg #[.int .i64 x.x, .int .i64 x.y, .int .i64 x.t, .bool x.f]), isV (.agg #[.int .i64 m.x, .int .i64 m.y, .int .i64 m.t, .bool m.f]), isV (.agg #[.int .i64 ((aftM Wn Hn x m).x), .int .i64 ((aftM Wn Hn x m).y), .int .i64 ((aftM Wn Hn x m).t), .bool ((aftM Wn Hn x m).f)]), isV (.agg #[.int .i64 0, .int .i64 0, .int .i64 0, .bool false]), isV (.bool false)] (by rfl) alloc_Z ?_ ?_
            · intro qi qh qA aa wx hb hs hd
              match qi, qh, qA with
              | 0, _, _ => exact .inl ⟨rfl, op_mv rfl (hs 0 rfl)⟩
              | 1, _, _ => exact .inl ⟨rfl, op_mv rfl (hs 1 rfl)⟩
              | 2, _, _ => exact .inl ⟨rfl, op_ldN rfl rfl (hs 8 rfl) ((HE.out.to hb).get 2 rfl)⟩
              | 3, _, _ => exact .inl ⟨rfl, op_ldN rfl rfl (hs 5 rfl) ((HE.out.to hb).get 0 rfl)⟩
              | 4, _, _ => exact .inl ⟨rfl, op_call4 rfl rfl Try.call28 (by rw [show aa.eval (.tmp 17) = .int .i64 (((Wn : Nat) : Int)) from (hd 0 rfl), show aa.eval (.tmp 18) = .int .i64 (((Hn : Nat) : Int)) from (hd 1 rfl), show aa.eval (.tmp 19) = .agg #[.int .i64 x.x, .int .i64 x.y, .int .i64 x.t, .bool x.f] from (hd 2 rfl), show aa.eval (.tmp 20) = .agg #[.int .i64 m.x, .int .i64 m.y, .int .i64 m.t, .bool m.f] from (hd 3 rfl)]; exact rAfter_got HX.out HAL.out _)⟩
              | 5, _, _ => exact .inl ⟨rfl, ⟨_, op_b0N rfl, rfl⟩⟩
              | 6, _, _ => exact .inl ⟨rfl, ⟨_, op_eqlN_ne hz rfl (hd 4 rfl) (hd 5 rfl), rfl⟩⟩
              | qi + 7, h, _ => omega
            · intro vs X4 hb hv hal hne
              have HL0 := Hd.mk (HE.out.lt)
              have HBW := HB
              replace HB := Hd.mk (bel_then HB.out hb)
              replace HE : Hd (Env X4 [⟨w.heap.size, 26, [.int .i64 m.x, .int .i64 m.y, .int .i64 m.t, .bool m.f]⟩, ⟨w.heap.size + 1, 26, [.int .i64 0, .int .i64 0, .int .i64 0, .bool false]⟩, ⟨g8, 26, [.int .i64 x.x, .int .i64 x.y, .int .i64 x.t, .bool x.f]⟩]) := ⟨HE.out.to hb⟩
              have HLS := HL0
              have HOL := Hd.mk HO.out.lt
              replace HO := Hd.mk (HO.out.to hb)
              have e23 : vs 23 = .bool false := hv 6 (by decide) rfl
              simp only [putAll, List.foldl_cons, List.foldl_nil, Act.put, List.setIfInBounds_toArray, List.set_cons_succ, List.set_cons_zero, List.drop_succ_cons, List.drop_zero, e23]
              generalize vs 17 = s17
              generalize vs 18 = s18
              generalize vs 19 = s19
              generalize vs 20 = s20
              generalize vs 21 = s21
              generalize vs 22 = s22
              clear hv hal hne hb HL0 HBW HLS e23 HOL
              go_wp2_with fail
              go_roundw
              case rel => exact ⟨j + 1, by omega, by go_num, ⟨Env.front (L := [⟨w.heap.size, 26, [.int .i64 m.x, .int .i64 m.y, .int .i64 m.t, .bool m.f]⟩, ⟨w.heap.size + 1, 26, [.int .i64 0, .int .i64 0, .int .i64 0, .bool false]⟩]) HE.out, HO.out, HB.out⟩, fun i y hi hy => by
                by_cases hij : i = j
                · subst hij
                  rw [HJX.out] at hy
                  cases hy
                  exact hz
                · exact HNV.out i y (by omega) hy⟩
              case measure => simp [intOf]; omega
      · exfalso
        obtain ⟨i, hi, he⟩ := List.mem_iff_getElem.1 ((HMEM.out (invM Wn Hn m)).2 (inv_al HAL.out))
        exact HNV.out i (invM Wn Hn m) (by omega) (by rw [List.getElem?_eq_getElem hi, he]) (inv_one HAL.out)
end Go.Proofs.Ytddbmckbankmeaa
