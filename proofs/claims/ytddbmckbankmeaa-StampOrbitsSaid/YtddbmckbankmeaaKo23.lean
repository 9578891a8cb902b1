/- Part 23 of the texts behind this claim. -/
import Derived.Test.YtddbmckbankmeaaKo22
set_option linter.unusedVariables false
set_option linter.unusedSimpArgs false
namespace Go.Proofs.Ytddbmckbankmeaa
open Go.RowKit
theorem ins_at {z : List Int} {A : Option Addr} {k : Nat} : ∀ {ts : List Sl} {q : Nat}, (∀ r, r < q → cmpL (xsn ts r) z < 0) → q ≤ ts.length → (q < ts.length → 0 < cmpL (xsn ts q) z) → insX z (ts.map Sl.xs) = (ts.take q ++ ⟨A, k, z⟩ :: ts.drop q).map Sl.xs
  | [], q, _, hq, _ => by
    obtain rfl : q = 0 := by simpa using hq
    rfl
  | s :: ts, 0, _, _, h => by
    have h1 : 0 < cmpL s.xs z := h (by simp)
    rw [List.map_cons, insX, if_neg (by omega), if_neg (by omega)]
    rfl
  | s :: ts, q + 1, h, hq, h2 => by
    have h1 : cmpL s.xs z < 0 := h 0 (by omega)
    have ih := ins_at (z := z) (A := A) (k := k) (ts := ts) (q := q) (fun r hr => h (r + 1) (by omega)) (by simpa using hq) (fun hl => h2 (by simpa using hl))
    rw [List.map_cons, insX, if_pos h1, ih]
    rfl
theorem ins_in {z : List Int} : ∀ {ts : List Sl} {q : Nat}, (∀ r, r < q → cmpL (xsn ts r) z < 0) → q < ts.length → cmpL (xsn ts q) z = 0 → insX z (ts.map Sl.xs) = ts.map Sl.xs
  | [], q, _, hq, _ => by simp at hq
  | s :: ts, 0, _, _, h => by
    have h1 : cmpL s.xs z = 0 := h
    rw [List.map_cons, insX, if_neg (by omega), if_pos h1]
  | s :: ts, q + 1, h, hq, h2 => by
    have h1 : cmpL s.xs z < 0 := h 0 (by omega)
    have ih := ins_in (z := z) (ts := ts) (q := q) (fun r hr => h (r + 1) (by omega)) (by simpa using hq) h2
    rw [List.map_cons, insX, if_pos h1, ih]
theorem orb_add {W H : Int} {xs : List Int} {ms : List Mv} {m : Mv} {j : Nat} (hm : ms[j]? = some m) : orbL W H xs (ms.take (j + 1)) = insX (apM W H m xs) (orbL W H xs (ms.take j)) := by
  unfold orbL
  rw [List.take_add_one, hm, List.map_append, List.foldl_append]
  rfl
theorem orb_lens {W H : Int} {xs : List Int} {ms : List Mv} {ts : List Sl} (h : ts.map Sl.xs = orbL W H xs ms) {s : Sl} (hs : s ∈ ts) : s.xs.length = xs.length := by
  have h1 : s.xs ∈ orbL W H xs ms := by rw [← h]; exact List.mem_map.2 ⟨s, hs, rfl⟩
  obtain ⟨m, _, e⟩ := orb_mem.1 h1
  rw [← e, apM_length]
def isE0 (lo : Nat) : SP := ⟨fun v w => ∃ g, v = .slice (some ⟨g, 0, none⟩) 0 0 ∧ lo ≤ g ∧ Blk w g 24 [], fun v w w' ⟨g, h1, h2, h3⟩ hb => ⟨g, h1, h2, h3.to hb⟩⟩
def isOU (lo : Nat) (W H : Int) (ts : List Sl) : SP := ⟨fun v w => OwnU lo w v W H ts, fun v w w' h hb => h.to hb⟩
def isRV (lo : Nat) (vs : List Value) : SP := ⟨fun v w => ∃ g, v = .slice (some ⟨g, 0, none⟩) 1 1 ∧ lo ≤ g ∧ Blk w g 24 vs, fun v w w' ⟨g, h1, h2, h3⟩ hb => ⟨g, h1, h2, h3.to hb⟩⟩
section
variable {w w' : World} {lo g : Nat} {W H : Int} {ts us : List Sl} {v : Value} {t : TypeId} {cs : List Value} {A : Option Addr} {k n q size B : Nat} {xs : List Value}
theorem Reads.take (h : Reads w B size A n xs) (hk : q ≤ n) : Reads w B size A q (xs.take (q * size)) := by
  refine ⟨?_, fun hn => ?_⟩
  · rw [List.length_take, h.1]
    exact Nat.min_eq_left (Nat.mul_le_mul_right _ hk)
  obtain ⟨ad, e, hb, hc⟩ := h.2 (by omega)
  refine ⟨ad, e, hb, fun j u hu => hc j u ?_⟩
  rw [List.getElem?_take] at hu
  split at hu
  · exact hu
  cases hu
theorem OwnU.cl (h : OwnU lo w v W H ts) : ∃ A k, v = .slice A ts.length k ∧ ts.length ≤ k ∧ k ≤ 9223372036854775807 ∧ (A = none → ts.length = 0 ∧ k = 0) := by
  rcases h.2 with ⟨rfl, hn⟩ | ⟨g, cap, cur, rfl, hlo, hg, hnc, hcm, _⟩
  · exact ⟨none, 0, by rw [hn], by omega, by omega, fun _ => ⟨hn, rfl⟩⟩
  exact ⟨_, cap, rfl, hnc, hcm, fun e => by cases e⟩
theorem OwnU.row (h : OwnU lo w v W H ts) (hne : ts ≠ []) : ∃ g cap rest, v = .slice (some ⟨g, 0, none⟩) ts.length cap ∧ lo ≤ g ∧ Blk w g 24 (ts.flatMap (encT W H) ++ rest) ∧ ts.length ≤ cap ∧ cap ≤ maxLen := by
  rcases h.2 with ⟨_, hn⟩ | ⟨g, cap, cur, rfl, hlo, hg, hnc, hcm, hcs, htk⟩
  · exact absurd (List.eq_nil_of_length_eq_zero hn) hne
  refine ⟨g, cap, cur.toList.drop (ts.length * 3), rfl, hlo, ?_, hnc, hcm⟩
  rw [← htk, List.take_append_drop]
  exact hg
theorem OwnU.ld (h : OwnU lo w (.slice A n k) W H ts) {j : Nat} {s : Sl} (hj : ts[j]? = some s) : ∃ g, A = some ⟨g, 0, none⟩ ∧ w.cell? ⟨g, j * 3, none⟩ = some (.int .i64 W) ∧ w.cell? ⟨g, j * 3 + 1, none⟩ = some (.int .i64 H) ∧ w.cell? ⟨g, j * 3 + 2, none⟩ = some (.slice s.A s.xs.length s.k) := by
  have hne : ts ≠ [] := fun e => by rw [e] at hj; cases hj
  obtain ⟨g, cap, rest, e, _, hb, _⟩ := h.row hne
  injection e with e
  exact ⟨g, e, tcell_ld hb hj⟩
theorem OwnU.some_ (h : OwnU lo w (.slice A n k) W H ts) {j : Nat} {s : Sl} (hj : ts[j]? = some s) : ∃ g, A = some ⟨g, 0, none⟩ := let ⟨g, e, _⟩ := h.ld hj; ⟨g, e⟩
theorem OwnU.ne (h : OwnU lo w v W H ts) (hne : ts ≠ []) (hb : Blk w g t []) : ∀ r, v.ownBlock = some r → r ≠ g := fun r hr e => by
  obtain ⟨g', cap, rest, rfl, _, hb', _⟩ := h.row hne
  injection hr with hr
  have e2 : g' = g := hr.trans e
  subst e2
  unfold Blk at hb hb'
  rw [hb] at hb'
  injection hb' with hb'
  injection hb' with hc _ _
  have := congrArg Array.size hc
  cases ts with
  | nil => exact hne rfl
  | cons a l => simp [encT] at this
theorem blk_by {r : Option Nat} (h : Blk w g t cs) (hg : w.grownBy w' r) (hne : ∀ z, r = some z → z ≠ g) : Blk w' g t cs := (hg.block g h.lt (fun e => hne g e.symm rfl)).trans h
theorem OwnU.by_ {r : Option Nat} (h : OwnU lo w v W H ts) (hg : w.grownBy w' r) (hne : ∀ z, r = some z → ∀ y, v.ownBlock = some y → z ≠ y) : OwnU lo w' v W H ts := by
  refine ⟨h.1, ?_⟩
  rcases h.2 with hn | ⟨g', cap, cur, rfl, hb, hgg, rest⟩
  · exact .inl hn
  exact .inr ⟨g', cap, cur, rfl, hb, (hg.block g' (Array.getElem?_eq_some_iff.1 hgg).1 (fun e => hne g' e.symm g' rfl rfl)).trans hgg, rest⟩
theorem own_e0 (h : (isE0 lo).p v w) : OwnU lo w v W H [] := by
  obtain ⟨g, rfl, h2, h3⟩ := h
  exact ⟨rfl, .inr ⟨g, 0, #[], rfl, h2, h3, Nat.le_refl _, by unfold maxLen; omega, rfl, rfl⟩⟩
theorem tcells_take (W H : Int) (q : Nat) : ∀ ts : List Sl, (ts.take q).flatMap (encT W H) = (ts.flatMap (encT W H)).take (q * 3) := fun ts => by
  by_cases hq : q ≤ ts.length
  · have e : ts.flatMap (encT W H) = (ts.take q).flatMap (encT W H) ++ (ts.drop q).flatMap (encT W H) := by rw [← List.flatMap_append, List.take_append_drop]
    rw [e, List.take_left' (by rw [tcells_len, List.length_take, Nat.min_eq_left hq])]
  rw [List.take_of_length_le (by omega), List.take_of_length_le (by rw [tcells_len]; omega)]
theorem tcells_drop (W H : Int) {q : Nat} {ts : List Sl} (hq : q ≤ ts.length) : (ts.drop q).flatMap (encT W H) = (ts.flatMap (encT W H)).drop (q * 3) := by
  have e : ts.flatMap (encT W H) = (ts.take q).flatMap (encT W H) ++ (ts.drop q).flatMap (encT W H) := by rw [← List.flatMap_append, List.take_append_drop]
  rw [e, List.drop_left' (by rw [tcells_len, List.length_take, Nat.min_eq_left hq])]
theorem OwnU.reads (h : OwnU lo w (.slice A ts.length k) W H ts) : Reads w w.heap.size 3 A ts.length (ts.flatMap (encT W H)) := Reads.of_own h
theorem OwnU.lower {lo' : Nat} (h : lo ≤ lo') (ho : OwnU lo' w v W H ts) : OwnU lo w v W H ts := by
  refine ⟨ho.1, ?_⟩
  rcases ho.2 with hn | ⟨g', cap, cur, rfl, hb, hgg, rest⟩
  · exact .inl hn
  exact .inr ⟨g', cap, cur, rfl, by omega, hgg, rest⟩
end
section
variable {Q : Exit → Act → World → Prop} {o : Oper} {a : Act} {w : World} {d g n k i lo m c : Nat} {x y : Operand} {W H : Int} {us vs : List Sl} {A : Option Addr} {v0 : Value} {R : Act → World → Prop}
theorem op_appU (ho : o.op = .call { callee := .builtin .append, args := #[x, y], argTypes := #[80, 80] }) (hd : o.dst = some d) (hx : a.eval x = v0) (hown : OwnU lo w v0 W H us) (hy : a.eval y = .slice A m c) (B : Nat) (hr : Reads w B 3 A m (vs.flatMap (encT W H))) (hm : vs.length = m) (hlen : us.length + vs.length ≤ 1000000) (hlo : lo ≤ w.heap.size)
    (hK : ∀ v w', OwnU lo w' v W H (us ++ vs) → w.grownBy w' v0.ownBlock → R (a.put (some d) v) w') : o.wp Try.prog a w R Q := by
  subst hm
  obtain ⟨i0, hi, hz0, hz1, hz2⟩ := info_parts Try.info_rstamp
  refine wp_append_any w x y 80 ho lo 24 i0 (.agg #[.int .i64 0, .int .i64 0, .slice none 0 0]) 3 40 Try.underlying80 hi hz0 hz1 hz2 rfl (by decide) v0 us.length (us.flatMap (encT W H)) hx hown B A vs.length c (vs.flatMap (encT W H)) hy hr (fun u hu => ?_) (by unfold maxLen; omega) (by omega) hlo ?_
  · obtain ⟨s, _, hs⟩ := List.mem_flatMap.1 hu
    unfold encT at hs
    simp at hs
    rcases hs with rfl | rfl | rfl <;> rfl
  intro v' w' h2 h3 _
  rw [hd]
  refine hK _ w' ?_ h3
  unfold OwnU
  rw [List.length_append, List.flatMap_append]
  exact h2
theorem op_e0 (ho : o.op = .buildSlice 80 0 #[]) (hd : o.dst = some d) (hlo : lo ≤ w.heap.size) : o.wp Try.prog a w (Post a w d (isE0 lo).p) Q := by
  have key : (execOp a.eval o).run Try.prog w = .ok (.value (.slice (some ⟨w.heap.size, 0, none⟩) 0 0)) (w.alloc (.cells #[] 24)) := by
    generalize a.eval = ev
    unfold execOp
    simp only [ho]
    simp [go_sem]
  unfold Oper.wp
  rw [key]
  simp only [Oper.upon, hd]
  exact ⟨_, rfl, below_alloc (Below.refl _ _) _, w.heap.size, rfl, hlo, heap_alloc_new w _⟩
theorem op_rowV (ho : o.op = .buildSlice 80 1 #[(0, x)]) (hd : o.dst = some d) (hx : a.eval x = .agg #[.int .i64 W, .int .i64 H, .slice A n k]) (hlo : lo ≤ w.heap.size) : o.wp Try.prog a w (Post a w d (isRV lo [.int .i64 W, .int .i64 H, .slice A n k]).p) Q := by
  have key : (execOp a.eval o).run Try.prog w = .ok (.value (.slice (some ⟨w.heap.size, 0, none⟩) 1 1)) (w.alloc (.cells #[.int .i64 W, .int .i64 H, .slice A n k] 24)) := by
    generalize a.eval = ev at hx ⊢
    unfold execOp
    simp only [ho]
    simp [go_sem, hx]
  unfold Oper.wp
  rw [key]
  simp only [Oper.upon, hd]
  exact ⟨_, rfl, below_alloc (Below.refl _ _) _, w.heap.size, rfl, hlo, heap_alloc_new w _⟩
theorem op_fromU (hi : i ≤ n) (hk : n ≤ k) (hA : A = none → n = 0 ∧ k = 0) (ho : o.op = .slice 80 x (some y) none none) (hx : a.eval x = .slice A n k) (hy : a.eval y = .int .i64 (i : Int)) (w : World) : (execOp a.eval o).run Try.prog w = .ok (.value (.slice (if k = i then A else A.map (·.add (i * 3))) (n - i) (k - i))) w := by
  generalize a.eval = ev at hx hy ⊢
  unfold execOp
  simp only [ho, Option.map_some, Option.map_none, hx, hy]
  have h1 : (i : Int) ≤ (n : Int) := by omega
  have h2 : (n : Int) ≤ (k : Int) := by omega
  cases A with
  | none =>
    obtain ⟨rfl, rfl⟩ := hA rfl
    obtain rfl : i = 0 := by omega
    simp [go_sem]
  | some ad =>
    by_cases h3 : k = i
    · subst h3
      simp [go_sem, h1, h2]
    simp [go_sem, h1, h2, h3]
end
def isUs (lo : Nat) (W H : Int) (xss : List (List Int)) : SP := ⟨fun v w => ∃ g k rest ts, v = .slice (some ⟨g, 0, none⟩) ts.length k ∧ ts.map Sl.xs = xss ∧ lo ≤ g ∧ Blk w g 24 (ts.flatMap (encT W H) ++ rest) ∧ OkT w ts,
  fun v w w' h hb => by
    obtain ⟨g, k, rest, ts, h1, h2, h3, h4, h5⟩ := h
    exact ⟨g, k, rest, ts, h1, h2, h3, h4.to hb, h5.to hb⟩⟩
set_option maxRecDepth 100000 in
set_option maxHeartbeats 1000000 in
theorem rOrbit_got (Wd Ht : Int) (A : Option Addr) (k : Nat) (ms : List Mv) (B : Option Addr) (c : Nat) (xs : List Int) (w : World) (hrm : RdM w A ms) (hln : ms.length ≤ 100000) (hri : RI w B xs) (hv : validB Wd Ht xs = true) (hal : ∀ i, i < ms.length → Al Wd Ht (nthM ms i)) (hnz : 0 < ms.length) :
    Calls Try.prog 48 #[.slice A ms.length k, .agg #[.int .i64 Wd, .int .i64 Ht, .slice B xs.length c]] w (Got w (isUs w.heap.size Wd Ht (orbL Wd Ht xs ms)).p) := by
  have HNZ := Hd.mk hnz
  have HRM := Hd.mk hrm
  have HVL := Hd.mk (valid_len hv)
  have hsh := valid_short hv
  obtain ⟨bd, rfl⟩ := valid_some hri hv
  have HRI := Hd.mk hri
  have HPX : Hd (0 < xs.length) := ⟨by have h := valid_len hv; have h2 := sizeB_bounds (valid_size hv); have h3 := Int.mul_pos (show 0 < Wd by omega) (show 0 < Ht by omega); omega⟩
  have HALL := Hd.mk hal
  clear hrm hri hv hal
  go_enter Try.func48, Try.ntmps48
  go_upto_region 1 with fail
  obtain ⟨W0, hW0⟩ : ∃ W : World, W = w.alloc (.cells #[.int .i64 Wd, .int .i64 Ht, .slice (some bd) xs.length c] 24) := ⟨_, rfl⟩
  rw [← hW0]
  obtain ⟨he, hb⟩ := env_one hW0
  have HE := Hd.mk he
  have HB := Hd.mk hb
  clear he hb hW0
  refine wp_region_vd 0 [] [] [] 84 [.int .i64 0, .int .i64 0] [] (by rfl) alloc_Z ?_ ?_
  · intro qi qh qA aa wx hb hs hd
    match qi, qh, qA with
    | qi + 0, h, _ => omega
  intro vs X1 hb hv hal hne
  replace HB := Hd.mk (bel_then HB.out hb)
  replace HE := Hd.mk (HE.out.to hb)
  simp only [PA]
  clear hv hal hne hb
  go_upto_region 2 with fail
  refine wp_region_vd 3 [10, 11, 12] [0, 2] [] 84 [.int .i64 0, .int .i64 0] [isV (.slice A ms.length k), isV (.int .i64 (((ms.length : Nat) : Int))), isV (.int .i64 0)] (by rfl) alloc_Z ?_ ?_
  · intro qi qh qA aa wx hb hs hd
    match qi, qh, qA with
    | 0, _, _ => exact .inl ⟨rfl, op_mv rfl (hs 0 rfl)⟩
    | 1, _, _ => exact .inl ⟨rfl, op_lenvVN rfl rfl (hd 0 rfl)⟩
    | 2, _, _ => exact .inl ⟨rfl, op_mv rfl rfl⟩
    | qi + 3, h, _ => omega
  intro vs X2 hb hv hal hne
  replace HB := Hd.mk (bel_then HB.out hb)
  replace HE := Hd.mk (HE.out.to hb)
  have e10 : vs 10 = .slice A ms.length k := hv 0 (by decide) rfl
  have e11 : vs 11 = .int .i64 (((ms.length : Nat) : Int)) := hv 1 (by decide) rfl
  have e12 : vs 12 = .int .i64 0 := hv 2 (by decide) rfl
  simp only [PA, e10, e11, e12]
  clear hv hal hne hb e10 e11 e12
  have HO : Hd (OwnU (w.heap.size + 1) X2 (.slice none 0 0) Wd Ht []) := ⟨World.ownsRow_nil _ _ _ _⟩
  go_wp2_with fail
  go_loopw [5, 12] (fun s5 s12 wr => ∃ (j : Nat) (ts : List Sl), j ≤ ms.length ∧ s12 = .int .i64 j ∧ ts.length ≤ j ∧ ts.map Sl.xs = orbL Wd Ht xs (ms.take j) ∧ OkT wr ts ∧ OwnU (w.heap.size + 1) wr s5 Wd Ht ts ∧ Env wr [⟨w.heap.size, 24, [.int .i64 Wd, .int .i64 Ht, .slice (some bd) xs.length c]⟩] ∧ Below w.heap.size w wr) (fun _ s12 _ => ms.length - (intOf s12).toNat)
  case atStart => exact ⟨0, [], Nat.zero_le _, rfl, Nat.zero_le _, rfl, (fun s hs => by cases hs), HO.out, HE.out, HB.out⟩
  case round =>
    obtain ⟨j, ts, hjl, rfl, htl, hmp, hok, ho, he, hb⟩ := hrel
    clear HB HE HO
    obtain ⟨A5, k5, rfl, hk5, hk52, hA5⟩ := OwnU.cl ho
    have HA5 := Hd.mk hA5
    have HB := Hd.mk hb
    have HO := Hd.mk ho
    have HM := Hd.mk hok
    have HMP := Hd.mk hmp
    have HE : Hd (Env wr [⟨w.heap.size, 24, [.int .i64 Wd, .int .i64 Ht, .slice (some bd) xs.length c]⟩]) := ⟨he⟩
    clear ho he hb hok hmp hA5
    by_cases hj : j < ms.length
    · obtain ⟨m, hm⟩ : ∃ m, ms[j]? = some m := ⟨_, List.getElem?_eq_getElem hj⟩
      obtain ⟨ad, rfl⟩ := HRM.out.some_ hm
      have HMJ := Hd.mk hm
      have HAL : Hd (Al Wd Ht m) := ⟨by have h := HALL.out j hj; rwa [nthM_at hm] at h⟩
      have HADD := Hd.mk (orb_add (W := Wd) (H := Ht) (xs := xs) hm)
      clear hm
      go_upto_region 4 with fail
      refine wp_region_vd 3 [14, 15, 7] [] [2] 26 [.int .i64 0, .int .i64 0, .int .i64 0, .bool false] [isV (.pointer (some (ad.add (j * 4)))), isV (.agg #[.int .i64 m.x, .int .i64 m.y, .int .i64 m.t, .bool m.f]), SP.any] (by rfl) alloc_N ?_ ?_
      · intro qi qh qA aa wx hb hs hd
        match qi, qh, qA with
        | 0, _, _ => exact .inl ⟨rfl, op_run rfl (op_idxVN hj rfl (hs 10 rfl) (hs 12 rfl) _) rfl⟩
        | 1, _, _ => exact .inl ⟨rfl, op_ldvVN rfl rfl (hd 0 rfl) ((HRM.out.to (bel_then HB.out hb)).at_ HMJ.out)⟩
        | 2, _, h => cases h
        | qi + 3, h, _ => omega
      intro vs X1 hb hv hal hne
      have HL0 := Hd.mk (HE.out.lt)
      have HBW := HB
      replace HB := Hd.mk (bel_then HB.out hb)
      replace HE := Hd.mk (HE.out.to hb)
      replace HM := Hd.mk (HM.out.to hb)
      have HOL := Hd.mk HO.out.lt
      replace HO := Hd.mk (HO.out.to hb)
      have e15 : vs 15 = .agg #[.int .i64 m.x, .int .i64 m.y, .int .i64 m.t, .bool m.f] := hv 1 (by decide) rfl
      obtain ⟨g7, e7, l7, b7⟩ : ∃ g, vs 7 = .pointer (some ⟨g, 0, none⟩) ∧ _ := hal 2 rfl
      replace HE : Hd (Env X1 [⟨w.heap.size, 24, [.int .i64 Wd, .int .i64 Ht, .slice (some bd) xs.length c]⟩, ⟨g7, 26, [.int .i64 0, .int .i64 0, .int .i64 0, .bool false]⟩]) := ⟨Env.addne (e := ⟨g7, 26, [.int .i64 0, .int .i64 0, .int .i64 0, .bool false]⟩) HE.out b7 (fun e' he => Nat.ne_of_lt (Nat.lt_of_lt_of_le (HL0.out e' he) l7))⟩
      have HOG7 : Hd (∀ k, (Value.slice A5 ts.length k5).ownBlock = some k → k < g7) := ⟨fun k hk => Nat.lt_of_lt_of_le (HOL.out k hk).2 l7⟩
      have G7 : Hd (w.heap.size ≤ g7) := ⟨Nat.le_trans HBW.out.size l7⟩
      simp only [PA, e15, e7]
      clear hv hal hne hb HL0 HBW e15 e7 l7 b7 HOL
      refine wpList_st rfl rfl rfl rfl rfl (sto_N (HE.out.get 1 rfl)) ?_
      have HE' : Env (putL X1 g7 0 [.int .i64 m.x, .int .i64 m.y, .int .i64 m.t, .bool m.f]) [⟨w.heap.size, 24, [.int .i64 Wd, .int .i64 Ht, .slice (some bd) xs.length c]⟩, ⟨g7, 26, [.int .i64 m.x, .int .i64 m.y, .int .i64 m.t, .bool m.f]⟩] := HE.out.putF 1 rfl rfl
      have HB' := putL_below (show w.heap.size ≤ g7 from G7.out) [.int .i64 m.x, .int .i64 m.y, .int .i64 m.t, .bool m.f] _ 0 HB.out
      replace HM := Hd.mk (HM.out.putB (vs := [.int .i64 m.x, .int .i64 m.y, .int .i64 m.t, .bool m.f]) (o := 0) (HE.out.get 1 rfl))
      replace HO := Hd.mk (HO.out.put (vs := [.int .i64 m.x, .int .i64 m.y, .int .i64 m.t, .bool m.f]) (o := 0) HOG7.out)
      generalize putL X1 g7 0 [.int .i64 m.x, .int .i64 m.y, .int .i64 m.t, .bool m.f] = X2 at *
      replace HE := Hd.mk HE'
      replace HB := Hd.mk HB'
      clear HE' HB'
      go_upto_region 5 with fail
      refine wp_region_vd 4 [16, 17, 18, 8] [] [3] 24 [.int .i64 0, .int .i64 0, .slice none 0 0] [isV (.agg #[.int .i64 m.x, .int .i64 m.y, .int .i64 m.t, .bool m.f]), isV (.agg #[.int .i64 Wd, .int .i64 Ht, .slice (some bd) xs.length c]), isFS X2.heap.size Wd Ht (apM Wd Ht m xs), SP.any] (by rfl) alloc_U ?_ ?_
      · intro qi qh qA aa wx hb hs hd
        match qi, qh, qA with
        | 0, _, _ => exact .inl ⟨rfl, op_ldN rfl rfl (hs 7 rfl) ((HE.out.to hb).get 1 rfl)⟩
        | 1, _, _ => exact .inl ⟨rfl, op_ldU rfl rfl (hs 3 rfl) ((HE.out.to hb).get 0 rfl)⟩
        | 2, _, _ => exact .inl ⟨rfl, op_call2 rfl rfl Try.call22 (by rw [(show aa.eval (.tmp 16) = .agg #[.int .i64 m.x, .int .i64 m.y, .int .i64 m.t, .bool m.f] from (hd 0 rfl)), (show aa.eval (.tmp 17) = .agg #[.int .i64 Wd, .int .i64 Ht, .slice (some bd) xs.length c] from (hd 1 rfl))]; exact got_fs hb.size (rapply_got Wd Ht m.x m.y m.t m.f bd c xs _ (HRI.out.to (bel_then HB.out hb)) HAL.out.okm HVL.out))⟩
        | 3, _, h => cases h
        | qi + 4, h, _ => omega
      intro vs X3 hb hv hal hne
      have HL0 := Hd.mk (HE.out.lt)
      have HBW := HB
      replace HB := Hd.mk (bel_then HB.out hb)
      replace HE := Hd.mk (HE.out.to hb)
      replace HM := Hd.mk (HM.out.to hb)
      have HOL := Hd.mk HO.out.lt
      replace HO := Hd.mk (HO.out.to hb)
      have t18 : (isFS X2.heap.size Wd Ht (apM Wd Ht m xs)).p (vs 18) X3 := hv 2 (by decide) rfl
      obtain ⟨g18, k18, rest18, e18, l18, m18, n18, b18⟩ := t18
      replace HE : Hd (Env X3 [⟨w.heap.size, 24, [.int .i64 Wd, .int .i64 Ht, .slice (some bd) xs.length c]⟩, ⟨g7, 26, [.int .i64 m.x, .int .i64 m.y, .int .i64 m.t, .bool m.f]⟩, ⟨g18, 3, ints (apM Wd Ht m xs) ++ rest18⟩]) := ⟨Env.addne (e := ⟨g18, 3, ints (apM Wd Ht m xs) ++ rest18⟩) HE.out b18 (fun e' he => Nat.ne_of_lt (Nat.lt_of_lt_of_le (HL0.out e' he) l18))⟩
      have G18 : Hd (w.heap.size ≤ g18) := ⟨Nat.le_trans HBW.out.size l18⟩
      obtain ⟨g8, e8, l8, b8⟩ : ∃ g, vs 8 = .pointer (some ⟨g, 0, none⟩) ∧ _ := hal 3 rfl
      replace HE : Hd (Env X3 [⟨w.heap.size, 24, [.int .i64 Wd, .int .i64 Ht, .slice (some bd) xs.length c]⟩, ⟨g7, 26, [.int .i64 m.x, .int .i64 m.y, .int .i64 m.t, .bool m.f]⟩, ⟨g18, 3, ints (apM Wd Ht m xs) ++ rest18⟩, ⟨g8, 24, [.int .i64 0, .int .i64 0, .slice none 0 0]⟩]) := ⟨Env.addne (e := ⟨g8, 24, [.int .i64 0, .int .i64 0, .slice none 0 0]⟩) HE.out b8 (fun e' he => (List.mem_append.1 (show e' ∈ _ ++ [_] from he)).elim (fun he => Nat.ne_of_lt (Nat.lt_of_lt_of_le (HL0.out e' he) l8)) (fun he => by rw [List.mem_singleton.1 he]; exact blk_ne b18 b8 (by decide)))⟩
      have HOG8 : Hd (∀ k, (Value.slice A5 ts.length k5).ownBlock = some k → k < g8) := ⟨fun k hk => Nat.lt_of_lt_of_le (HOL.out k hk).2 l8⟩
      have G8 : Hd (w.heap.size ≤ g8) := ⟨Nat.le_trans HBW.out.size l8⟩
      simp only [PA, e18, e8]
      clear hv hal hne hb HL0 HBW e18 e8 l18 b18 l8 b8 HOL
      refine wpList_st rfl rfl rfl rfl rfl (sto_U (HE.out.get 3 rfl)) ?_
      have HE' : Env (putL X3 g8 0 [.int .i64 Wd, .int .i64 Ht, .slice (some ⟨g18, 0, none⟩) ((apM Wd Ht m xs).length) k18]) [⟨w.heap.size, 24, [.int .i64 Wd, .int .i64 Ht, .slice (some bd) xs.length c]⟩, ⟨g7, 26, [.int .i64 m.x, .int .i64 m.y, .int .i64 m.t, .bool m.f]⟩, ⟨g18, 3, ints (apM Wd Ht m xs) ++ rest18⟩, ⟨g8, 24, [.int .i64 Wd, .int .i64 Ht, .slice (some ⟨g18, 0, none⟩) ((apM Wd Ht m xs).length) k18]⟩] := HE.out.putF 3 rfl rfl
      have HB' := putL_below (show w.heap.size ≤ g8 from G8.out) [.int .i64 Wd, .int .i64 Ht, .slice (some ⟨g18, 0, none⟩) ((apM Wd Ht m xs).length) k18] _ 0 HB.out
      replace HM := Hd.mk (HM.out.putB (vs := [.int .i64 Wd, .int .i64 Ht, .slice (some ⟨g18, 0, none⟩) ((apM Wd Ht m xs).length) k18]) (o := 0) (HE.out.get 3 rfl))
      replace HO := Hd.mk (HO.out.put (vs := [.int .i64 Wd, .int .i64 Ht, .slice (some ⟨g18, 0, none⟩) ((apM Wd Ht m xs).length) k18]) (o := 0) HOG8.out)
      generalize putL X3 g8 0 [.int .i64 Wd, .int .i64 Ht, .slice (some ⟨g18, 0, none⟩) ((apM Wd Ht m xs).length) k18] = X4 at *
      replace HE := Hd.mk HE'
      replace HB := Hd.mk HB'
      clear HE' HB'
      go_wp2_with fail
      go_loopw [9] (fun s9 wr => ∃ q : Nat, q ≤ ts.length ∧ s9 = .int .i64 q ∧ (∀ r, r < q → cmpL (xsn ts r) (apM Wd Ht m xs) < 0) ∧ OkT wr ts ∧ OwnU (w.heap.size + 1) wr (.slice A5 ts.length k5) Wd Ht ts ∧ Env wr [⟨w.heap.size, 24, [.int .i64 Wd, .int .i64 Ht, .slice (some bd) xs.length c]⟩, ⟨g7, 26, [.int .i64 m.x, .int .i64 m.y, .int .i64 m.t, .bool m.f]⟩, ⟨g18, 3, ints (apM Wd Ht m xs) ++ rest18⟩, ⟨g8, 24, [.int .i64 Wd, .int .i64 Ht, .slice (some ⟨g18, 0, none⟩) ((apM Wd Ht m xs).length) k18]⟩] ∧ Below w.heap.size w wr) (fun s9 _ => ts.length - (intOf s9).toNat)
      case atStart => exact ⟨0, Nat.zero_le _, rfl, (fun r hr => by omega), HM.out, HO.out, HE.out, HB.out⟩
      case round =>
        obtain ⟨q, hq, rfl, hls, hok, ho, he, hb⟩ := hrel
        clear HB HE HO HM
        have HLS2 := Hd.mk hls
        have HB := Hd.mk hb
        have HO := Hd.mk ho
        have HM := Hd.mk hok
        have HE : Hd (Env wr [⟨w.heap.size, 24, [.int .i64 Wd, .int .i64 Ht, .slice (some bd) xs.length c]⟩, ⟨g7, 26, [.int .i64 m.x, .int .i64 m.y, .int .i64 m.t, .bool m.f]⟩, ⟨g18, 3, ints (apM Wd Ht m xs) ++ rest18⟩, ⟨g8, 24, [.int .i64 Wd, .int .i64 Ht, .slice (some ⟨g18, 0, none⟩) ((apM Wd Ht m xs).length) k18]⟩]) := ⟨he⟩
        clear ho he hb hok hls
        have HE0 := HE
        by_cases hql : q < ts.length
        · obtain ⟨s1, hs1⟩ : ∃ s, ts[q]? = some s := ⟨_, List.getElem?_eq_getElem hql⟩
          obtain ⟨gO, rfl⟩ := OwnU.some_ HO.out hs1
          have HS1 := Hd.mk hs1
          have M1 := Hd.mk (List.mem_of_getElem? hs1)
          have HL1 := Hd.mk (orb_lens HMP.out M1.out)
          have HXQ := Hd.mk (xsn_of hs1)
          clear hs1
          by_cases hc : cmpL s1.xs (apM Wd Ht m xs) < 0
          · have HC := Hd.mk hc
            clear hc
            go_upto_region 7 with fail
            refine wp_region_vg 13 [19, 20, 21, 22, 23, 24, 25, 26, 27, 28, 29, 30, 31] [0, 1, 3, 4, 5, 6, 11, 12] [] 84 [.int .i64 0, .int .i64 0] [isV (.int .i64 (((q : Nat) : Int))), isV (.slice (some ⟨gO, 0, none⟩) ts.length k5), isV (.int .i64 (((ts.length : Nat) : Int))), isV (.bool true), isV (.bool true), isV (.slice (some ⟨gO, 0, none⟩) ts.length k5), isV (.int .i64 (((q : Nat) : Int))), isV (.pointer (some ⟨gO, 0 + q * 3, none⟩)), isV (.agg #[.int .i64 Wd, .int .i64 Ht, .slice s1.A s1.xs.length s1.k]), isV (.agg #[.int .i64 Wd, .int .i64 Ht, .slice (some ⟨g18, 0, none⟩) ((apM Wd Ht m xs).length) k18]), isV (.int .i64 (cmpL s1.xs (apM Wd Ht m xs))), isV (.bool true), isV (.bool true)] (by kernel_rfl) (by kernel_rfl) (by kernel_rfl) (by rfl) alloc_Z (fun d v c a w h => by cases d <;> exact h) ?_ ?_
            · intro qi qh qA aa wx hb hs hd
              match qi, qh, qA with
              | 0, _, _ => exact .inl ⟨rfl, op_mv rfl (hs 9 rfl)⟩
              | 1, _, _ => exact .inl ⟨rfl, op_mv rfl (hs 5 rfl)⟩
              | 2, _, _ => exact .inl ⟨rfl, op_lenU rfl rfl (hd 1 rfl)⟩
              | 3, _, _ => exact .inl ⟨rfl, pure_b (bool_eq (decide_eq_true (by omega))) (⟨_, op_lssI rfl (hd 0 rfl) (hd 2 rfl), rfl⟩)⟩
              | 4, _, _ => exact .inl ⟨rfl, op_mv rfl (hd 3 rfl)⟩
              | 5, _, _ => exact .inl ⟨⟨rfl, .inl (hd 4 rfl)⟩, op_mv rfl (hs 5 rfl)⟩
              | 6, _, _ => exact .inl ⟨⟨rfl, .inl (hd 4 rfl)⟩, op_mv rfl (hs 9 rfl)⟩
              | 7, _, _ => exact .inl ⟨⟨rfl, .inl (hd 4 rfl)⟩, op_run rfl (op_idxU hql rfl (hd 5 rfl) (hd 6 rfl) _) rfl⟩
              | 8, _, _ => exact .inl ⟨⟨rfl, .inl (hd 4 rfl)⟩, op_ldvU rfl rfl (hd 7 rfl) (by rw [Nat.zero_add]; obtain ⟨g', e', h'⟩ := (HO.out.to hb).ld HS1.out; cases e'; exact h')⟩
              | 9, _, _ => exact .inl ⟨⟨rfl, .inl (hd 4 rfl)⟩, op_ldU rfl rfl (hs 8 rfl) ((HE.out.to hb).get 3 rfl)⟩
              | 10, _, _ => exact .inl ⟨⟨rfl, .inl (hd 4 rfl)⟩, op_call2 rfl rfl Try.call80 (by rw [show aa.eval (.tmp 27) = _ from hd 8 rfl, show aa.eval (.tmp 28) = _ from hd 9 rfl]; exact Order_got Wd Ht s1 ⟨some ⟨g18, 0, none⟩, k18, apM Wd Ht m xs⟩ _ ((HM.out.to hb) s1 M1.out).1.1 (fs_cells ((HE.out.to hb).get 2 rfl)).1 (by rw [apM_length]; exact HL1.out) (by rw [apM_length]; exact HPX.out) (by rw [HL1.out]; omega) (by show (apM Wd Ht m xs).length ≤ _; rw [apM_length]; omega))⟩
              | 11, _, _ => exact .inl ⟨⟨rfl, .inl (hd 4 rfl)⟩, pure_b (bool_eq (decide_eq_true HC.out)) (⟨_, op_lssI rfl (hd 10 rfl) rfl, rfl⟩)⟩
              | 12, _, _ => exact .inl ⟨rfl, ⟨_, op_pickT rfl (hd 4 rfl) (hd 11 rfl), rfl⟩⟩
              | qi + 13, h, _ => omega
            intro vs X1 hb hv hal hne
            replace HB := Hd.mk (bel_then HB.out hb)
            replace HE := Hd.mk (HE.out.to hb)
            replace HM := Hd.mk (HM.out.to hb)
            have HOL := Hd.mk HO.out.lt
            replace HO := Hd.mk (HO.out.to hb)
            have e31 : vs 31 = .bool true := hv 12 (by decide) rfl
            simp only [PA, e31]
            clear hv hal hne hb e31 HOL
            go_upto_region 8 with fail
            refine wp_region_vd 2 [32, 33] [0, 1] [] 84 [.int .i64 0, .int .i64 0] [isV (.int .i64 (((q : Nat) : Int))), isV (.int .i64 ((((q : Nat) : Int)) + 1))] (by rfl) alloc_Z ?_ ?_
            · intro qi qh qA aa wx hb hs hd
              match qi, qh, qA with
              | 0, _, _ => exact .inl ⟨rfl, op_mv rfl (hs 9 rfl)⟩
              | 1, _, _ => exact .inl ⟨rfl, ⟨_, op_add (by unfold Fit; omega) rfl (hd 0 rfl) rfl, rfl⟩⟩
              | qi + 2, h, _ => omega
            intro vs X2 hb hv hal hne
            replace HB := Hd.mk (bel_then HB.out hb)
            replace HE := Hd.mk (HE.out.to hb)
            replace HM := Hd.mk (HM.out.to hb)
            have HOL := Hd.mk HO.out.lt
            replace HO := Hd.mk (HO.out.to hb)
            have e33 : vs 33 = .int .i64 ((((q : Nat) : Int)) + 1) := hv 1 (by decide) rfl
            simp only [PA, e33]
            clear hv hal hne hb e33 HOL
            go_wp2_with fail
            go_roundw
            case rel => exact ⟨q + 1, by omega, by go_num, (fun r hr => by
              by_cases e : r = q
              · rw [e, HXQ.out]; exact HC.out
              exact HLS2.out r (by omega)), HM.out, HO.out, HE.out, HB.out⟩
            case measure => simp [intOf]; omega
          have HC := Hd.mk hc
          clear hc
          go_upto_region 7 with fail
          refine wp_region_vg 13 [19, 20, 21, 22, 23, 24, 25, 26, 27, 28, 29, 30, 31] [0, 1, 3, 4, 5, 6, 11, 12] [] 84 [.int .i64 0, .int .i64 0] [isV (.int .i64 (((q : Nat) : Int))), isV (.slice (some ⟨gO, 0, none⟩) ts.length k5), isV (.int .i64 (((ts.length : Nat) : Int))), isV (.bool true), isV (.bool true), isV (.slice (some ⟨gO, 0, none⟩) ts.length k5), isV (.int .i64 (((q : Nat) : Int))), isV (.pointer (some ⟨gO, 0 + q * 3, none⟩)), isV (.agg #[.int .i64 Wd, .int .i64 Ht, .slice s1.A s1.xs.length s1.k]), isV (.agg #[.int .i64 Wd, .int .i64 Ht, .slice (some ⟨g18, 0, none⟩) ((apM Wd Ht m xs).length) k18]), isV (.int .i64 (cmpL s1.xs (apM Wd Ht m xs))), isV (.bool false), isV (.bool false)] (by kernel_rfl) (by kernel_rfl) (by kernel_rfl) (by rfl) alloc_Z (fun d v c a w h => by cases d <;> exact h) ?_ ?_
          · intro qi qh qA aa wx hb hs hd
            match qi, qh, qA with
            | 0, _, _ => exact .inl ⟨rfl, op_mv rfl (hs 9 rfl)⟩
            | 1, _, _ => exact .inl ⟨rfl, op_mv rfl (hs 5 rfl)⟩
            | 2, _, _ => exact .inl ⟨rfl, op_lenU rfl rfl (hd 1 rfl)⟩
            | 3, _, _ => exact .inl ⟨rfl, pure_b (bool_eq (decide_eq_true (by omega))) (⟨_, op_lssI rfl (hd 0 rfl) (hd 2 rfl), rfl⟩)⟩
            | 4, _, _ => exact .inl ⟨rfl, op_mv rfl (hd 3 rfl)⟩
            | 5, _, _ => exact .inl ⟨⟨rfl, .inl (hd 4 rfl)⟩, op_mv rfl (hs 5 rfl)⟩
            | 6, _, _ => exact .inl ⟨⟨rfl, .inl (hd 4 rfl)⟩, op_mv rfl (hs 9 rfl)⟩
            | 7, _, _ => exact .inl ⟨⟨rfl, .inl (hd 4 rfl)⟩, op_run rfl (op_idxU hql rfl (hd 5 rfl) (hd 6 rfl) _) rfl⟩
            | 8, _, _ => exact .inl ⟨⟨rfl, .inl (hd 4 rfl)⟩, op_ldvU rfl rfl (hd 7 rfl) (by rw [Nat.zero_add]; obtain ⟨g', e', h'⟩ := (HO.out.to hb).ld HS1.out; cases e'; exact h')⟩
            | 9, _, _ => exact .inl ⟨⟨rfl, .inl (hd 4 rfl)⟩, op_ldU rfl rfl (hs 8 rfl) ((HE.out.to hb).get 3 rfl)⟩
            | 10, _, _ => exact .inl ⟨⟨rfl, .inl (hd 4 rfl)⟩, op_call2 rfl rfl Try.call80 (by rw [show aa.eval (.tmp 27) = _ from hd 8 rfl, show aa.eval (.tmp 28) = _ from hd 9 rfl]; exact Order_got Wd Ht s1 ⟨some ⟨g18, 0, none⟩, k18, apM Wd Ht m xs⟩ _ ((HM.out.to hb) s1 M1.out).1.1 (fs_cells ((HE.out.to hb).get 2 rfl)).1 (by rw [apM_length]; exact HL1.out) (by rw [apM_length]; exact HPX.out) (by rw [HL1.out]; omega) (by show (apM Wd Ht m xs).length ≤ _; rw [apM_length]; omega))⟩
            | 11, _, _ => exact .inl ⟨⟨rfl, .inl (hd 4 rfl)⟩, pure_b (bool_eq (decide_eq_false HC.out)) (⟨_, op_lssI rfl (hd 10 rfl) rfl, rfl⟩)⟩
            | 12, _, _ => exact .inl ⟨rfl, ⟨_, op_pickT rfl (hd 4 rfl) (hd 11 rfl), rfl⟩⟩
            | qi + 13, h, _ => omega
          intro vs X1 hb hv hal hne
          replace HB := Hd.mk (bel_then HB.out hb)
          replace HE := Hd.mk (HE.out.to hb)
          replace HM := Hd.mk (HM.out.to hb)
          have HOL := Hd.mk HO.out.lt
          replace HO := Hd.mk (HO.out.to hb)
          have e31 : vs 31 = .bool false := hv 12 (by decide) rfl
          simp only [PA, e31]
          clear hv hal hne hb e31 HOL
          by_cases he : cmpL s1.xs (apM Wd Ht m xs) = 0
          · have HC2 := Hd.mk he
            clear he
            go_upto_region 9 with fail
            refine wp_region_vg 13 [34, 35, 36, 37, 38, 39, 40, 41, 42, 43, 44, 45, 46] [0, 1, 3, 4, 5, 6, 11, 12] [] 84 [.int .i64 0, .int .i64 0] [isV (.int .i64 (((q : Nat) : Int))), isV (.slice (some ⟨gO, 0, none⟩) ts.length k5), isV (.int .i64 (((ts.length : Nat) : Int))), isV (.bool false), isV (.bool false), isV (.slice (some ⟨gO, 0, none⟩) ts.length k5), isV (.int .i64 (((q : Nat) : Int))), isV (.pointer (some ⟨gO, 0 + q * 3, none⟩)), isV (.agg #[.int .i64 Wd, .int .i64 Ht, .slice s1.A s1.xs.length s1.k]), isV (.agg #[.int .i64 Wd, .int .i64 Ht, .slice (some ⟨g18, 0, none⟩) ((apM Wd Ht m xs).length) k18]), isV (.int .i64 (cmpL s1.xs (apM Wd Ht m xs))), isV (.bool false), isV (.bool false)] (by kernel_rfl) (by kernel_rfl) (by kernel_rfl) (by rfl) alloc_Z (fun d v c a w h => by cases d <;> exact h) ?_ ?_
            · intro qi qh qA aa wx hb hs hd
              match qi, qh, qA with
              | 0, _, _ => exact .inl ⟨rfl, op_mv rfl (hs 9 rfl)⟩
              | 1, _, _ => exact .inl ⟨rfl, op_mv rfl (hs 5 rfl)⟩
              | 2, _, _ => exact .inl ⟨rfl, op_lenU rfl rfl (hd 1 rfl)⟩
              | 3, _, _ => exact .inl ⟨rfl, pure_b (bool_eq (decide_eq_false (by omega))) (⟨_, op_eqlI rfl (hd 0 rfl) (hd 2 rfl), rfl⟩)⟩
              | 4, _, _ => exact .inl ⟨rfl, op_mv rfl (hd 3 rfl)⟩
              | 5, _, _ => exact .inl ⟨⟨rfl, .inl (hd 4 rfl)⟩, op_mv rfl (hs 5 rfl)⟩
              | 6, _, _ => exact .inl ⟨⟨rfl, .inl (hd 4 rfl)⟩, op_mv rfl (hs 9 rfl)⟩
              | 7, _, _ => exact .inl ⟨⟨rfl, .inl (hd 4 rfl)⟩, op_run rfl (op_idxU hql rfl (hd 5 rfl) (hd 6 rfl) _) rfl⟩
              | 8, _, _ => exact .inl ⟨⟨rfl, .inl (hd 4 rfl)⟩, op_ldvU rfl rfl (hd 7 rfl) (by rw [Nat.zero_add]; obtain ⟨g', e', h'⟩ := (HO.out.to hb).ld HS1.out; cases e'; exact h')⟩
              | 9, _, _ => exact .inl ⟨⟨rfl, .inl (hd 4 rfl)⟩, op_ldU rfl rfl (hs 8 rfl) ((HE.out.to hb).get 3 rfl)⟩
              | 10, _, _ => exact .inl ⟨⟨rfl, .inl (hd 4 rfl)⟩, op_call2 rfl rfl Try.call80 (by rw [show aa.eval (.tmp 42) = _ from hd 8 rfl, show aa.eval (.tmp 43) = _ from hd 9 rfl]; exact Order_got Wd Ht s1 ⟨some ⟨g18, 0, none⟩, k18, apM Wd Ht m xs⟩ _ ((HM.out.to hb) s1 M1.out).1.1 (fs_cells ((HE.out.to hb).get 2 rfl)).1 (by rw [apM_length]; exact HL1.out) (by rw [apM_length]; exact HPX.out) (by rw [HL1.out]; omega) (by show (apM Wd Ht m xs).length ≤ _; rw [apM_length]; omega))⟩
              | 11, _, _ => exact .inl ⟨⟨rfl, .inl (hd 4 rfl)⟩, pure_b (bool_eq (decide_eq_false (by rw [HC2.out]; omega))) (⟨_, op_gtrI rfl (hd 10 rfl) rfl, rfl⟩)⟩
              | 12, _, _ => exact .inl ⟨rfl, ⟨_, op_pickF rfl (hd 4 rfl) (hd 11 rfl), rfl⟩⟩
              | qi + 13, h, _ => omega
            intro vs X2 hb hv hal hne
            replace HB := Hd.mk (bel_then HB.out hb)
            replace HE := Hd.mk (HE.out.to hb)
            replace HM := Hd.mk (HM.out.to hb)
            have HOL := Hd.mk HO.out.lt
            replace HO := Hd.mk (HO.out.to hb)
            have e46 : vs 46 = .bool false := hv 12 (by decide) rfl
            simp only [PA, e46]
            clear hv hal hne hb e46 HOL
            go_wp2_with fail
            go_roundw
            case rel => exact ⟨j + 1, ts, by omega, by go_num, by omega, (by rw [HADD.out, ← HMP.out, ins_in HLS2.out hql (by rw [HXQ.out]; exact HC2.out)]), HM.out, HO.out, Env.front (L := [⟨w.heap.size, 24, [.int .i64 Wd, .int .i64 Ht, .slice (some bd) xs.length c]⟩]) HE.out, HB.out⟩
            case measure => simp [intOf]; omega
          have HC2 := Hd.mk he
          have HC3 : Hd (0 < cmpL s1.xs (apM Wd Ht m xs)) := ⟨by have := HC.out; omega⟩
          clear he
          go_upto_region 9 with fail
          refine wp_region_vg 13 [34, 35, 36, 37, 38, 39, 40, 41, 42, 43, 44, 45, 46] [0, 1, 3, 4, 5, 6, 11, 12] [] 84 [.int .i64 0, .int .i64 0] [isV (.int .i64 (((q : Nat) : Int))), isV (.slice (some ⟨gO, 0, none⟩) ts.length k5), isV (.int .i64 (((ts.length : Nat) : Int))), isV (.bool false), isV (.bool false), isV (.slice (some ⟨gO, 0, none⟩) ts.length k5), isV (.int .i64 (((q : Nat) : Int))), isV (.pointer (some ⟨gO, 0 + q * 3, none⟩)), isV (.agg #[.int .i64 Wd, .int .i64 Ht, .slice s1.A s1.xs.length s1.k]), isV (.agg #[.int .i64 Wd, .int .i64 Ht, .slice (some ⟨g18, 0, none⟩) ((apM Wd Ht m xs).length) k18]), isV (.int .i64 (cmpL s1.xs (apM Wd Ht m xs))), isV (.bool true), isV (.bool true)] (by kernel_rfl) (by kernel_rfl) (by kernel_rfl) (by rfl) alloc_Z (fun d v c a w h => by cases d <;> exact h) ?_ ?_
          · intro qi qh qA aa wx hb hs hd
            match qi, qh, qA with
            | 0, _, _ => exact .inl ⟨rfl, op_mv rfl (hs 9 rfl)⟩
            | 1, _, _ => exact .inl ⟨rfl, op_mv rfl (hs 5 rfl)⟩
            | 2, _, _ => exact .inl ⟨rfl, op_lenU rfl rfl (hd 1 rfl)⟩
            | 3, _, _ => exact .inl ⟨rfl, pure_b (bool_eq (decide_eq_false (by omega))) (⟨_, op_eqlI rfl (hd 0 rfl) (hd 2 rfl), rfl⟩)⟩
            | 4, _, _ => exact .inl ⟨rfl, op_mv rfl (hd 3 rfl)⟩
            | 5, _, _ => exact .inl ⟨⟨rfl, .inl (hd 4 rfl)⟩, op_mv rfl (hs 5 rfl)⟩
            | 6, _, _ => exact .inl ⟨⟨rfl, .inl (hd 4 rfl)⟩, op_mv rfl (hs 9 rfl)⟩
            | 7, _, _ => exact .inl ⟨⟨rfl, .inl (hd 4 rfl)⟩, op_run rfl (op_idxU hql rfl (hd 5 rfl) (hd 6 rfl) _) rfl⟩
            | 8, _, _ => exact .inl ⟨⟨rfl, .inl (hd 4 rfl)⟩, op_ldvU rfl rfl (hd 7 rfl) (by rw [Nat.zero_add]; obtain ⟨g', e', h'⟩ := (HO.out.to hb).ld HS1.out; cases e'; exact h')⟩
            | 9, _, _ => exact .inl ⟨⟨rfl, .inl (hd 4 rfl)⟩, op_ldU rfl rfl (hs 8 rfl) ((HE.out.to hb).get 3 rfl)⟩
            | 10, _, _ => exact .inl ⟨⟨rfl, .inl (hd 4 rfl)⟩, op_call2 rfl rfl Try.call80 (by rw [show aa.eval (.tmp 42) = _ from hd 8 rfl, show aa.eval (.tmp 43) = _ from hd 9 rfl]; exact Order_got Wd Ht s1 ⟨some ⟨g18, 0, none⟩, k18, apM Wd Ht m xs⟩ _ ((HM.out.to hb) s1 M1.out).1.1 (fs_cells ((HE.out.to hb).get 2 rfl)).1 (by rw [apM_length]; exact HL1.out) (by rw [apM_length]; exact HPX.out) (by rw [HL1.out]; omega) (by show (apM Wd Ht m xs).length ≤ _; rw [apM_length]; omega))⟩
            | 11, _, _ => exact .inl ⟨⟨rfl, .inl (hd 4 rfl)⟩, pure_b (bool_eq (decide_eq_true HC3.out)) (⟨_, op_gtrI rfl (hd 10 rfl) rfl, rfl⟩)⟩
            | 12, _, _ => exact .inl ⟨rfl, ⟨_, op_pickF rfl (hd 4 rfl) (hd 11 rfl), rfl⟩⟩
            | qi + 13, h, _ => omega
          intro vs X2 hb hv hal hne
          replace HB := Hd.mk (bel_then HB.out hb)
          replace HE := Hd.mk (HE.out.to hb)
          replace HM := Hd.mk (HM.out.to hb)
          have HOL := Hd.mk HO.out.lt
          replace HO := Hd.mk (HO.out.to hb)
          have e46 : vs 46 = .bool true := hv 12 (by decide) rfl
          simp only [PA, e46]
          clear hv hal hne hb e46 HOL
          have HXW : Hd (X2.heap.size ≤ X2.heap.size) := ⟨Nat.le_refl _⟩
          have HE0 := HE
          go_upto_region 10 with fail
          have HLT : Hd (ts.length ≤ 100000) := ⟨by omega⟩
          refine wp_region_vq 12 [47, 48, 49, 50, 51, 52, 53, 54, 55, 56, 57, 58] [1, 2, 8, 9] [] [4, 7, 11] [(0, 4), (4, 7), (6, 7), (7, 11)] 84 [.int .i64 0, .int .i64 0] [isE0 X2.heap.size, isV (.slice (some ⟨gO, 0, none⟩) ts.length k5), isV (.int .i64 ((q : Nat) : Int)), isV (.slice (some ⟨gO, 0, none⟩) q k5), isOU X2.heap.size Wd Ht (ts.take q), isV (.agg #[.int .i64 Wd, .int .i64 Ht, .slice (some ⟨g18, 0, none⟩) (apM Wd Ht m xs).length k18]), isRV X2.heap.size [.int .i64 Wd, .int .i64 Ht, .slice (some ⟨g18, 0, none⟩) (apM Wd Ht m xs).length k18], isOU X2.heap.size Wd Ht (ts.take q ++ [(⟨some ⟨g18, 0, none⟩, k18, apM Wd Ht m xs⟩ : Sl)]), isV (.slice (some ⟨gO, 0, none⟩) ts.length k5), isV (.int .i64 ((q : Nat) : Int)), isV (.slice (if k5 = q then (some ⟨gO, 0, none⟩ : Option Addr) else Option.map (fun ad : Addr => ad.add (q * 3)) (some ⟨gO, 0, none⟩)) (ts.length - q) (k5 - q)), isOU X2.heap.size Wd Ht (ts.take q ++ [(⟨some ⟨g18, 0, none⟩, k18, apM Wd Ht m xs⟩ : Sl)] ++ ts.drop q)] (by kernel_rfl) (by kernel_rfl) (by kernel_rfl) (by rfl) alloc_Z (fun j m h => rfl) (keb_spec (by kernel_rfl)) (fun i h => rfl) (fun d v c a w h => by cases d <;> exact h) ?_ ?_
          · intro qi qh qA aa wx hb hs hd
            have hrd := OwnU.reads (HO.out.to hb)
            match qi, qh, qA with
            | 0, _, _ =>
              simp only [List.getElem?_cons_succ, List.getElem?_cons_zero]
              rw [if_neg (by decide), if_neg (by decide)]
              exact op_e0 rfl rfl hb.size
            | 1, _, _ => exact op_mv rfl (hs 5 rfl)
            | 2, _, _ => exact op_mv rfl (hs 9 rfl)
            | 3, _, _ =>
              simp only [List.getElem?_cons_succ, List.getElem?_cons_zero]
              rw [if_neg (by decide), if_neg (by decide)]
              exact op_run rfl (op_toU hq hk5 rfl (hd 1 rfl) (hd 2 rfl) _) rfl
            | 4, _, _ =>
              simp only [List.getElem?_cons_succ, List.getElem?_cons_zero]
              rw [if_neg (by decide), if_pos (by decide)]
              obtain ⟨g0, he0, hl0, hb0⟩ : (isE0 X2.heap.size).p (aa.eval (.tmp 47)) wx := hd 0 rfl
              refine op_appU (d := 51) (lo := X2.heap.size) (W := Wd) (H := Ht) (us := []) (vs := ts.take q) rfl rfl he0 (own_e0 ⟨g0, rfl, hl0, hb0⟩) (hd 3 rfl) wx.heap.size (by rw [tcells_take]; exact hrd.take hq) (by rw [List.length_take]; omega) (by have := HLT.out; simp; omega) hb.size ?_
              intro v w' h1 h2
              refine ⟨v, rfl, hb.grown h2 hb.size (fun z hz => by injection hz with hz; rw [← hz]; exact hl0), h1, fun j hj hne hk hdep hkd u hu => ?_⟩
              match j, hj with
              | 0, _ => exact absurd (by decide) hk
              | 1, _ => exact hu
              | 2, _ => exact hu
              | 3, _ => exact hu
              | 4, _ => exact absurd rfl hne
              | 5, _ => exact hu
              | 6, _ => 
                obtain ⟨g, a1, a2, a3⟩ := hu
                exact ⟨g, a1, a2, blk_by a3 h2 (fun z hz e => by
                  injection hz with hz
                  have e3 : g0 = g := hz.trans e
                  subst e3
                  unfold Blk at a3 hb0
                  rw [hb0] at a3
                  injection a3 with a3
                  injection a3 with a3 _ _
                  have := congrArg Array.size a3
                  simp at this)⟩
              | 7, _ => exact absurd rfl (hdep _ rfl _ (.head _) rfl)
              | 8, _ => exact hu
              | 9, _ => exact hu
              | 10, _ => exact hu
              | 11, _ => exact OwnU.by_ hu h2 (fun z hz y hy e => OwnU.ne hu (by simp) hb0 y hy (by injection hz with hz; exact e.symm.trans hz.symm))
              | j + 12, h => omega
            | 5, _, _ =>
              simp only [List.getElem?_cons_succ, List.getElem?_cons_zero]
              rw [if_neg (by decide), if_neg (by decide)]
              exact op_ldU rfl rfl (hs 8 rfl) ((HE.out.to hb).get 3 rfl)
            | 6, _, _ =>
              simp only [List.getElem?_cons_succ, List.getElem?_cons_zero]
              rw [if_neg (by decide), if_neg (by decide)]
              exact op_rowV rfl rfl (hd 5 rfl) hb.size
            | 7, _, _ =>
              simp only [List.getElem?_cons_succ, List.getElem?_cons_zero]
              rw [if_neg (by decide), if_pos (by decide)]
              obtain ⟨gR, heR, hlR, hbR⟩ : (isRV X2.heap.size [.int .i64 Wd, .int .i64 Ht, .slice (some ⟨g18, 0, none⟩) (apM Wd Ht m xs).length k18]).p (aa.eval (.tmp 53)) wx := hd 6 rfl
              have hO4 : OwnU X2.heap.size wx (aa.eval (.tmp 51)) Wd Ht (ts.take q) := hd 4 rfl
              refine op_appU (d := 54) (lo := X2.heap.size) (W := Wd) (H := Ht) (us := ts.take q) (vs := [⟨some ⟨g18, 0, none⟩, k18, apM Wd Ht m xs⟩]) rfl rfl rfl hO4 heR (gR + 1) ⟨rfl, fun _ => ⟨_, rfl, Nat.lt_succ_self _, fun z u hz => by rw [addr_zero, hbR.cell]; exact hz⟩⟩ rfl (by have := HLT.out; rw [List.length_take]; simp; omega) hb.size ?_
              intro v w' h1 h2
              refine ⟨v, rfl, hb.grown h2 hb.size (fun z hz => (hO4.lt z hz).1), h1, fun j hj hne hk hdep hkd u hu => ?_⟩
              match j, hj with
              | 0, _ => exact absurd rfl (hkd 4 (by decide) _ rfl _ (.head _) rfl)
              | 1, _ => exact hu
              | 2, _ => exact hu
              | 3, _ => exact hu
              | 4, _ => exact absurd (by decide) hk
              | 5, _ => exact hu
              | 6, _ => exact absurd (by decide) hk
              | 7, _ => exact absurd rfl hne
              | 8, _ => exact hu
              | 9, _ => exact hu
              | 10, _ => exact hu
              | 11, _ => exact absurd rfl (hdep _ rfl _ (.head _) rfl)
              | j + 12, h => omega
            | 8, _, _ => exact op_mv rfl (hs 5 rfl)
            | 9, _, _ => exact op_mv rfl (hs 9 rfl)
            | 10, _, _ =>
              simp only [List.getElem?_cons_succ, List.getElem?_cons_zero]
              rw [if_neg (by decide), if_neg (by decide)]
              exact op_run rfl (op_fromU hq hk5 (fun e => by cases e) rfl (hd 8 rfl) (hd 9 rfl) _) rfl
            | 11, _, _ =>
              simp only [List.getElem?_cons_succ, List.getElem?_cons_zero]
              rw [if_neg (by decide), if_pos (by decide)]
              have hO7 : OwnU X2.heap.size wx (aa.eval (.tmp 54)) Wd Ht (ts.take q ++ [(⟨some ⟨g18, 0, none⟩, k18, apM Wd Ht m xs⟩ : Sl)]) := hd 7 rfl
              refine op_appU (d := 58) (lo := X2.heap.size) (W := Wd) (H := Ht) (us := (ts.take q ++ [(⟨some ⟨g18, 0, none⟩, k18, apM Wd Ht m xs⟩ : Sl)])) (vs := ts.drop q) rfl rfl rfl hO7 (hd 10 rfl) wx.heap.size (by rw [tcells_drop _ _ hq]; exact hrd.cut hq hk5) (by rw [List.length_drop]) (by have := HLT.out; simp; omega) hb.size ?_
              intro v w' h1 h2
              refine ⟨v, rfl, hb.grown h2 hb.size (fun z hz => (hO7.lt z hz).1), h1, fun j hj hne hk hdep hkd u hu => ?_⟩
              match j, hj with
              | 0, _ => 
                obtain ⟨g, a1, a2, a3⟩ := hu
                exact ⟨g, a1, a2, blk_by a3 h2 (fun z hz e => OwnU.ne hO7 (by simp) a3 z hz e)⟩
              | 1, _ => exact hu
              | 2, _ => exact hu
              | 3, _ => exact hu
              | 4, _ => exact absurd rfl (hkd 7 (by decide) _ rfl _ (.head _) rfl)
              | 5, _ => exact hu
              | 6, _ => exact absurd rfl (hkd 7 (by decide) _ rfl _ (.head _) rfl)
              | 7, _ => exact absurd (by decide) hk
              | 8, _ => exact hu
              | 9, _ => exact hu
              | 10, _ => exact hu
              | 11, _ => exact absurd rfl hne
              | j + 12, h => omega
            | qi + 12, h, _ => omega
          intro vs XN hb hv hal hne
          have HBW := HB
          replace HB := Hd.mk (bel_then HB.out hb)
          have HO1 : OwnU X2.heap.size XN (vs 58) Wd Ht (ts.take q ++ [(⟨some ⟨g18, 0, none⟩, k18, apM Wd Ht m xs⟩ : Sl)] ++ ts.drop q) := hv 11 (by decide) rfl (by simp)
          have HO2 := OwnU.lower (Nat.le_trans (HE0.out.get 0 rfl).lt HXW.out) HO1
          have HM2 : OkT XN (ts.take q ++ [(⟨some ⟨g18, 0, none⟩, k18, apM Wd Ht m xs⟩ : Sl)] ++ ts.drop q) := by
            intro s hs
            rcases List.mem_append.1 hs with hs | hs
            · rcases List.mem_append.1 hs with hs | hs
              · exact (HM.out s (List.mem_of_mem_take hs)).to hb
              rw [List.mem_singleton.1 hs]
              exact ⟨(fs_cells (HE.out.get 2 rfl)).to hb, by show (apM Wd Ht m xs).length ≤ _; rw [apM_length]; omega⟩
            exact (HM.out s (List.mem_of_mem_drop hs)).to hb
          replace HE := Hd.mk (HE.out.to hb)
          have HL3 : (ts.take q ++ [(⟨some ⟨g18, 0, none⟩, k18, apM Wd Ht m xs⟩ : Sl)] ++ ts.drop q).length ≤ j + 1 := by simp; omega
          have HIN : (ts.take q ++ [(⟨some ⟨g18, 0, none⟩, k18, apM Wd Ht m xs⟩ : Sl)] ++ ts.drop q).map Sl.xs = orbL Wd Ht xs (ms.take (j + 1)) := by
            rw [HADD.out, ← HMP.out, ins_at (A := some ⟨g18, 0, none⟩) (k := k18) HLS2.out hq (fun _ => by rw [HXQ.out]; exact HC3.out)]
            simp
          clear hal hne hv HO1 hb
          simp only [PA]
          generalize vs 47 = v47 at *
          generalize vs 48 = v48 at *
          generalize vs 49 = v49 at *
          generalize vs 50 = v50 at *
          generalize vs 51 = v51 at *
          generalize vs 52 = v52 at *
          generalize vs 53 = v53 at *
          generalize vs 54 = v54 at *
          generalize vs 55 = v55 at *
          generalize vs 56 = v56 at *
          generalize vs 57 = v57 at *
          generalize vs 58 = v58 at *
          go_wp2_with fail
          go_roundw
          case rel => exact ⟨j + 1, _, by omega, by go_num, HL3, HIN, HM2, HO2, Env.front (L := [⟨w.heap.size, 24, [.int .i64 Wd, .int .i64 Ht, .slice (some bd) xs.length c]⟩]) HE.out, HB.out⟩
          case measure => simp [intOf]; omega
        have e1 : q = ts.length := by omega
        have HQL := Hd.mk e1
        go_upto_region 7 with fail
        refine wp_region_vg 13 [19, 20, 21, 22, 23, 24, 25, 26, 27, 28, 29, 30, 31] [0, 1, 3, 4, 12] [] 84 [.int .i64 0, .int .i64 0] [isV (.int .i64 (((q : Nat) : Int))), isV (.slice A5 ts.length k5), isV (.int .i64 (((ts.length : Nat) : Int))), isV (.bool false), isV (.bool false), isV undef, isV undef, isV undef, isV undef, isV undef, isV undef, isV undef, isV (.bool false)] (by kernel_rfl) (by kernel_rfl) (by kernel_rfl) (by rfl) alloc_Z (fun d v c a w h => by cases d <;> exact h) ?_ ?_
        · intro qi qh qA aa wx hb hs hd
          match qi, qh, qA with
          | 0, _, _ => exact .inl ⟨rfl, op_mv rfl (hs 9 rfl)⟩
          | 1, _, _ => exact .inl ⟨rfl, op_mv rfl (hs 5 rfl)⟩
          | 2, _, _ => exact .inl ⟨rfl, op_lenU rfl rfl (hd 1 rfl)⟩
          | 3, _, _ => exact .inl ⟨rfl, pure_b (bool_eq (decide_eq_false (by omega))) (⟨_, op_lssI rfl (hd 0 rfl) (hd 2 rfl), rfl⟩)⟩
          | 4, _, _ => exact .inl ⟨rfl, op_mv rfl (hd 3 rfl)⟩
          | 5, _, _ => exact .inr ⟨⟨rfl, .inl (hd 4 rfl)⟩, rfl⟩
          | 6, _, _ => exact .inr ⟨⟨rfl, .inl (hd 4 rfl)⟩, rfl⟩
          | 7, _, _ => exact .inr ⟨⟨rfl, .inl (hd 4 rfl)⟩, rfl⟩
          | 8, _, _ => exact .inr ⟨⟨rfl, .inl (hd 4 rfl)⟩, rfl⟩
          | 9, _, _ => exact .inr ⟨⟨rfl, .inl (hd 4 rfl)⟩, rfl⟩
          | 10, _, _ => exact .inr ⟨⟨rfl, .inl (hd 4 rfl)⟩, rfl⟩
          | 11, _, _ => exact .inr ⟨⟨rfl, .inl (hd 4 rfl)⟩, rfl⟩
          | 12, _, _ => exact .inl ⟨rfl, ⟨_, op_pickF rfl (hd 4 rfl) rfl, rfl⟩⟩
          | qi + 13, h, _ => omega
        intro vs X1 hb hv hal hne
        replace HB := Hd.mk (bel_then HB.out hb)
        replace HE := Hd.mk (HE.out.to hb)
        replace HM := Hd.mk (HM.out.to hb)
        have HOL := Hd.mk HO.out.lt
        replace HO := Hd.mk (HO.out.to hb)
        have e31 : vs 31 = .bool false := hv 12 (by decide) rfl
        simp only [PA, e31]
        clear hv hal hne hb e31 HOL
        go_upto_region 9 with fail
        refine wp_region_vg 13 [34, 35, 36, 37, 38, 39, 40, 41, 42, 43, 44, 45, 46] [0, 1, 3, 4, 12] [] 84 [.int .i64 0, .int .i64 0] [isV (.int .i64 (((q : Nat) : Int))), isV (.slice A5 ts.length k5), isV (.int .i64 (((ts.length : Nat) : Int))), isV (.bool true), isV (.bool true), isV undef, isV undef, isV undef, isV undef, isV undef, isV undef, isV undef, isV (.bool true)] (by kernel_rfl) (by kernel_rfl) (by kernel_rfl) (by rfl) alloc_Z (fun d v c a w h => by cases d <;> exact h) ?_ ?_
        · intro qi qh qA aa wx hb hs hd
          match qi, qh, qA with
          | 0, _, _ => exact .inl ⟨rfl, op_mv rfl (hs 9 rfl)⟩
          | 1, _, _ => exact .inl ⟨rfl, op_mv rfl (hs 5 rfl)⟩
          | 2, _, _ => exact .inl ⟨rfl, op_lenU rfl rfl (hd 1 rfl)⟩
          | 3, _, _ => exact .inl ⟨rfl, pure_b (bool_eq (decide_eq_true (by omega))) (⟨_, op_eqlI rfl (hd 0 rfl) (hd 2 rfl), rfl⟩)⟩
          | 4, _, _ => exact .inl ⟨rfl, op_mv rfl (hd 3 rfl)⟩
          | 5, _, _ => exact .inr ⟨⟨rfl, .inl (hd 4 rfl)⟩, rfl⟩
          | 6, _, _ => exact .inr ⟨⟨rfl, .inl (hd 4 rfl)⟩, rfl⟩
          | 7, _, _ => exact .inr ⟨⟨rfl, .inl (hd 4 rfl)⟩, rfl⟩
          | 8, _, _ => exact .inr ⟨⟨rfl, .inl (hd 4 rfl)⟩, rfl⟩
          | 9, _, _ => exact .inr ⟨⟨rfl, .inl (hd 4 rfl)⟩, rfl⟩
          | 10, _, _ => exact .inr ⟨⟨rfl, .inl (hd 4 rfl)⟩, rfl⟩
          | 11, _, _ => exact .inr ⟨⟨rfl, .inl (hd 4 rfl)⟩, rfl⟩
          | 12, _, _ => exact .inl ⟨rfl, ⟨_, op_pickT rfl (hd 4 rfl) rfl, rfl⟩⟩
          | qi + 13, h, _ => omega
        intro vs X2 hb hv hal hne
        replace HB := Hd.mk (bel_then HB.out hb)
        replace HE := Hd.mk (HE.out.to hb)
        replace HM := Hd.mk (HM.out.to hb)
        have HOL := Hd.mk HO.out.lt
        replace HO := Hd.mk (HO.out.to hb)
        have e46 : vs 46 = .bool true := hv 12 (by decide) rfl
        simp only [PA, e46]
        clear hv hal hne hb e46 HOL
        have HXW : Hd (X2.heap.size ≤ X2.heap.size) := ⟨Nat.le_refl _⟩
        have HE0 := HE
        clear e1
        go_upto_region 10 with fail
        have HLT : Hd (ts.length ≤ 100000) := ⟨by omega⟩
        refine wp_region_vq 12 [47, 48, 49, 50, 51, 52, 53, 54, 55, 56, 57, 58] [1, 2, 8, 9] [] [4, 7, 11] [(0, 4), (4, 7), (6, 7), (7, 11)] 84 [.int .i64 0, .int .i64 0] [isE0 X2.heap.size, isV (.slice A5 ts.length k5), isV (.int .i64 ((q : Nat) : Int)), isV (.slice A5 q k5), isOU X2.heap.size Wd Ht (ts.take q), isV (.agg #[.int .i64 Wd, .int .i64 Ht, .slice (some ⟨g18, 0, none⟩) (apM Wd Ht m xs).length k18]), isRV X2.heap.size [.int .i64 Wd, .int .i64 Ht, .slice (some ⟨g18, 0, none⟩) (apM Wd Ht m xs).length k18], isOU X2.heap.size Wd Ht (ts.take q ++ [(⟨some ⟨g18, 0, none⟩, k18, apM Wd Ht m xs⟩ : Sl)]), isV (.slice A5 ts.length k5), isV (.int .i64 ((q : Nat) : Int)), isV (.slice (if k5 = q then (A5 : Option Addr) else Option.map (fun ad : Addr => ad.add (q * 3)) (A5)) (ts.length - q) (k5 - q)), isOU X2.heap.size Wd Ht (ts.take q ++ [(⟨some ⟨g18, 0, none⟩, k18, apM Wd Ht m xs⟩ : Sl)] ++ ts.drop q)] (by kernel_rfl) (by kernel_rfl) (by kernel_rfl) (by rfl) alloc_Z (fun j m h => rfl) (keb_spec (by kernel_rfl)) (fun i h => rfl) (fun d v c a w h => by cases d <;> exact h) ?_ ?_
        · intro qi qh qA aa wx hb hs hd
          have hrd := OwnU.reads (HO.out.to hb)
          match qi, qh, qA with
          | 0, _, _ =>
            simp only [List.getElem?_cons_succ, List.getElem?_cons_zero]
            rw [if_neg (by decide), if_neg (by decide)]
            exact op_e0 rfl rfl hb.size
          | 1, _, _ => exact op_mv rfl (hs 5 rfl)
          | 2, _, _ => exact op_mv rfl (hs 9 rfl)
          | 3, _, _ =>
            simp only [List.getElem?_cons_succ, List.getElem?_cons_zero]
            rw [if_neg (by decide), if_neg (by decide)]
            exact op_run rfl (op_toU hq hk5 rfl (hd 1 rfl) (hd 2 rfl) _) rfl
          | 4, _, _ =>
            simp only [List.getElem?_cons_succ, List.getElem?_cons_zero]
            rw [if_neg (by decide), if_pos (by decide)]
            obtain ⟨g0, he0, hl0, hb0⟩ : (isE0 X2.heap.size).p (aa.eval (.tmp 47)) wx := hd 0 rfl
            refine op_appU (d := 51) (lo := X2.heap.size) (W := Wd) (H := Ht) (us := []) (vs := ts.take q) rfl rfl he0 (own_e0 ⟨g0, rfl, hl0, hb0⟩) (hd 3 rfl) wx.heap.size (by rw [tcells_take]; exact hrd.take hq) (by rw [List.length_take]; omega) (by have := HLT.out; simp; omega) hb.size ?_
            intro v w' h1 h2
            refine ⟨v, rfl, hb.grown h2 hb.size (fun z hz => by injection hz with hz; rw [← hz]; exact hl0), h1, fun j hj hne hk hdep hkd u hu => ?_⟩
            match j, hj with
            | 0, _ => exact absurd (by decide) hk
            | 1, _ => exact hu
            | 2, _ => exact hu
            | 3, _ => exact hu
            | 4, _ => exact absurd rfl hne
            | 5, _ => exact hu
            | 6, _ => 
              obtain ⟨g, a1, a2, a3⟩ := hu
              exact ⟨g, a1, a2, blk_by a3 h2 (fun z hz e => by
                injection hz with hz
                have e3 : g0 = g := hz.trans e
                subst e3
                unfold Blk at a3 hb0
                rw [hb0] at a3
                injection a3 with a3
                injection a3 with a3 _ _
                have := congrArg Array.size a3
                simp at this)⟩
            | 7, _ => exact absurd rfl (hdep _ rfl _ (.head _) rfl)
            | 8, _ => exact hu
            | 9, _ => exact hu
            | 10, _ => exact hu
            | 11, _ => exact OwnU.by_ hu h2 (fun z hz y hy e => OwnU.ne hu (by simp) hb0 y hy (by injection hz with hz; exact e.symm.trans hz.symm))
            | j + 12, h => omega
          | 5, _, _ =>
            simp only [List.getElem?_cons_succ, List.getElem?_cons_zero]
            rw [if_neg (by decide), if_neg (by decide)]
            exact op_ldU rfl rfl (hs 8 rfl) ((HE.out.to hb).get 3 rfl)
          | 6, _, _ =>
            simp only [List.getElem?_cons_succ, List.getElem?_cons_zero]
            rw [if_neg (by decide), if_neg (by decide)]
            exact op_rowV rfl rfl (hd 5 rfl) hb.size
          | 7, _, _ =>
            simp only [List.getElem?_cons_succ, List.getElem?_cons_zero]
            rw [if_neg (by decide), if_pos (by decide)]
            obtain ⟨gR, heR, hlR, hbR⟩ : (isRV X2.heap.size [.int .i64 Wd, .int .i64 Ht, .slice (some ⟨g18, 0, none⟩) (apM Wd Ht m xs).length k18]).p (aa.eval (.tmp 53)) wx := hd 6 rfl
            have hO4 : OwnU X2.heap.size wx (aa.eval (.tmp 51)) Wd Ht (ts.take q) := hd 4 rfl
            refine op_appU (d := 54) (lo := X2.heap.size) (W := Wd) (H := Ht) (us := ts.take q) (vs := [⟨some ⟨g18, 0, none⟩, k18, apM Wd Ht m xs⟩]) rfl rfl rfl hO4 heR (gR + 1) ⟨rfl, fun _ => ⟨_, rfl, Nat.lt_succ_self _, fun z u hz => by rw [addr_zero, hbR.cell]; exact hz⟩⟩ rfl (by have := HLT.out; rw [List.length_take]; simp; omega) hb.size ?_
            intro v w' h1 h2
            refine ⟨v, rfl, hb.grown h2 hb.size (fun z hz => (hO4.lt z hz).1), h1, fun j hj hne hk hdep hkd u hu => ?_⟩
            match j, hj with
            | 0, _ => exact absurd rfl (hkd 4 (by decide) _ rfl _ (.head _) rfl)
            | 1, _ => exact hu
            | 2, _ => exact hu
            | 3, _ => exact hu
            | 4, _ => exact absurd (by decide) hk
            | 5, _ => exact hu
            | 6, _ => exact absurd (by decide) hk
            | 7, _ => exact absurd rfl hne
            | 8, _ => exact hu
            | 9, _ => exact hu
            | 10, _ => exact hu
            | 11, _ => exact absurd rfl (hdep _ rfl _ (.head _) rfl)
            | j + 12, h => omega
          | 8, _, _ => exact op_mv rfl (hs 5 rfl)
          | 9, _, _ => exact op_mv rfl (hs 9 rfl)
          | 10, _, _ =>
            simp only [List.getElem?_cons_succ, List.getElem?_cons_zero]
            rw [if_neg (by decide), if_neg (by decide)]
            exact op_run rfl (op_fromU hq hk5 HA5.out rfl (hd 8 rfl) (hd 9 rfl) _) rfl
          | 11, _, _ =>
            simp only [List.getElem?_cons_succ, List.getElem?_cons_zero]
            rw [if_neg (by decide), if_pos (by decide)]
            have hO7 : OwnU X2.heap.size wx (aa.eval (.tmp 54)) Wd Ht (ts.take q ++ [(⟨some ⟨g18, 0, none⟩, k18, apM Wd Ht m xs⟩ : Sl)]) := hd 7 rfl
            refine op_appU (d := 58) (lo := X2.heap.size) (W := Wd) (H := Ht) (us := (ts.take q ++ [(⟨some ⟨g18, 0, none⟩, k18, apM Wd Ht m xs⟩ : Sl)])) (vs := ts.drop q) rfl rfl rfl hO7 (hd 10 rfl) wx.heap.size (by rw [tcells_drop _ _ hq]; exact hrd.cut hq hk5) (by rw [List.length_drop]) (by have := HLT.out; simp; omega) hb.size ?_
            intro v w' h1 h2
            refine ⟨v, rfl, hb.grown h2 hb.size (fun z hz => (hO7.lt z hz).1), h1, fun j hj hne hk hdep hkd u hu => ?_⟩
            match j, hj with
            | 0, _ => 
              obtain ⟨g, a1, a2, a3⟩ := hu
              exact ⟨g, a1, a2, blk_by a3 h2 (fun z hz e => OwnU.ne hO7 (by simp) a3 z hz e)⟩
            | 1, _ => exact hu
            | 2, _ => exact hu
            | 3, _ => exact hu
            | 4, _ => exact absurd rfl (hkd 7 (by decide) _ rfl _ (.head _) rfl)
            | 5, _ => exact hu
            | 6, _ => exact absurd rfl (hkd 7 (by decide) _ rfl _ (.head _) rfl)
            | 7, _ => exact absurd (by decide) hk
            | 8, _ => exact hu
            | 9, _ => exact hu
            | 10, _ => exact hu
            | 11, _ => exact absurd rfl hne
            | j + 12, h => omega
          | qi + 12, h, _ => omega
        intro vs XN hb hv hal hne
        have HBW := HB
        replace HB := Hd.mk (bel_then HB.out hb)
        have HO1 : OwnU X2.heap.size XN (vs 58) Wd Ht (ts.take q ++ [(⟨some ⟨g18, 0, none⟩, k18, apM Wd Ht m xs⟩ : Sl)] ++ ts.drop q) := hv 11 (by decide) rfl (by simp)
        have HO2 := OwnU.lower (Nat.le_trans (HE0.out.get 0 rfl).lt HXW.out) HO1
        have HM2 : OkT XN (ts.take q ++ [(⟨some ⟨g18, 0, none⟩, k18, apM Wd Ht m xs⟩ : Sl)] ++ ts.drop q) := by
          intro s hs
          rcases List.mem_append.1 hs with hs | hs
          · rcases List.mem_append.1 hs with hs | hs
            · exact (HM.out s (List.mem_of_mem_take hs)).to hb
            rw [List.mem_singleton.1 hs]
            exact ⟨(fs_cells (HE.out.get 2 rfl)).to hb, by show (apM Wd Ht m xs).length ≤ _; rw [apM_length]; omega⟩
          exact (HM.out s (List.mem_of_mem_drop hs)).to hb
        replace HE := Hd.mk (HE.out.to hb)
        have HL3 : (ts.take q ++ [(⟨some ⟨g18, 0, none⟩, k18, apM Wd Ht m xs⟩ : Sl)] ++ ts.drop q).length ≤ j + 1 := by simp; omega
        have HIN : (ts.take q ++ [(⟨some ⟨g18, 0, none⟩, k18, apM Wd Ht m xs⟩ : Sl)] ++ ts.drop q).map Sl.xs = orbL Wd Ht xs (ms.take (j + 1)) := by
          rw [HADD.out, ← HMP.out, ins_at (A := some ⟨g18, 0, none⟩) (k := k18) HLS2.out hq (fun h => absurd h hql)]
          simp
        clear hal hne hv HO1 hb
        simp only [PA]
        generalize vs 47 = v47 at *
        generalize vs 48 = v48 at *
        generalize vs 49 = v49 at *
        generalize vs 50 = v50 at *
        generalize vs 51 = v51 at *
        generalize vs 52 = v52 at *
        generalize vs 53 = v53 at *
        generalize vs 54 = v54 at *
        generalize vs 55 = v55 at *
        generalize vs 56 = v56 at *
        generalize vs 57 = v57 at *
        generalize vs 58 = v58 at *
        go_wp2_with fail
        go_roundw
        case rel => exact ⟨j + 1, _, by omega, by go_num, HL3, HIN, HM2, HO2, Env.front (L := [⟨w.heap.size, 24, [.int .i64 Wd, .int .i64 Ht, .slice (some bd) xs.length c]⟩]) HE.out, HB.out⟩
        case measure => simp [intOf]; omega
    have e1 : j = ms.length := by omega
    have HMP1 : ts.map Sl.xs = orbL Wd Ht xs ms := by rw [HMP.out, e1, List.take_length]
    have hne : ts ≠ [] := fun e => by
      obtain ⟨s, hs⟩ := ts_some HMP1 HNZ.out
      rw [e] at hs
      cases hs
    obtain ⟨gO, capO, restO, e2, hlo, hbk, _⟩ := HO.out.row hne
    clear e1
    have HRES : Hd ((isUs w.heap.size Wd Ht (orbL Wd Ht xs ms)).p (.slice A5 ts.length k5) wr) := ⟨⟨gO, capO, restO, ts, e2, HMP1, Nat.le_trans (Nat.le_succ _) hlo, hbk, HM.out⟩⟩
    clear e2 hbk hlo
    go_wp2_with fail
    go_ret
    exact ⟨_, rfl, HB.out, HRES.out⟩
end Go.Proofs.Ytddbmckbankmeaa
