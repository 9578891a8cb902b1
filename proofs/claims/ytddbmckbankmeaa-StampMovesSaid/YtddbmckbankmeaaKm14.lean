/- Part 14 of the texts behind this claim. -/
import Derived.Test.YtddbmckbankmeaaKm12
import Derived.Test.YtddbmckbankmeaaKm13
set_option linter.unusedVariables false
set_option linter.unusedSimpArgs false
namespace Go.Proofs.Ytddbmckbankmeaa
open Go.RowKit
section
variable {Q : Exit → Act → World → Prop} {o : Oper} {a : Act} {w : World} {d f : Nat} {R : Value → World → Prop} {x1 y x : Operand} {ts : Array TypeId} {cb : Array Value}
theorem op_callb1 (hy : a.eval y = .func (.func f) #[] cb) (ho : o.op = .call { callee := .value y, args := #[x1], argTypes := ts }) (hd : o.dst = some d)
    (hcf : ∀ args w, (callFunc f args).run Try.prog w = .ok (.enter f args) w) (hc : Calls Try.prog f (#[a.eval x1] ++ cb) w (Got w R)) : o.wp Try.prog a w (Post a w d R) Q := by
  have key : execOp a.eval o = callFunc f (#[] ++ #[x1].map a.eval ++ cb) := by
    obtain ⟨dst, op, type, pos, after, guard⟩ := o
    simp only at ho
    subst ho
    unfold execOp
    simp only [resolve, hy]
    rfl
  unfold Oper.wp
  rw [key, hcf]
  simp only [Oper.upon, Array.empty_append, hd, List.map_toArray, List.map_cons, List.map_nil]
  refine hc.mono ?_
  rintro e w' ⟨v, rfl, hb, hr⟩
  exact ⟨v, rfl, hb, hr⟩
def isIx (b : Bool) : SP := ⟨fun v w => ∃ r : Int, v = .int .i64 r ∧ decide (0 ≤ r) = b, fun v w w' h _ => h⟩
theorem op_geqX {b : Bool} (ho : o.op = .binOp .geq 3 x (.const (.int .i64 0)) 3) (hd : o.dst = some d) (hx : (isIx b).p (a.eval x) w) : o.wp Try.prog a w (Post a w d (isV (.bool b)).p) Q := by
  obtain ⟨r, e, h⟩ := hx
  subst h
  refine op_run (v := .bool (decide (0 ≤ r))) hd ?_ rfl
  have hc : a.eval (.const (.int .i64 0)) = .int .i64 0 := rfl
  generalize a.eval = ev at e hc ⊢
  unfold execOp
  simp only [ho]
  simp [go_sem, e, hc]
end
def Preds (f : Nat) (cb : Array Value) (ms : List Mv) (q : Mv → Bool) (w : World) : Prop := ∀ m ∈ ms, ∀ wx, Below w.heap.size w wx → Calls Try.prog f (#[.agg #[.int .i64 m.x, .int .i64 m.y, .int .i64 m.t, .bool m.f]] ++ cb) wx (Got wx (isV (.bool (q m))).p)
theorem any_at {ms : List Mv} {q : Mv → Bool} {m : Mv} {j : Nat} (hm : ms[j]? = some m) (h : q m = true) : ms.any q = true := List.any_eq_true.2 ⟨m, List.mem_of_getElem? hm, h⟩
theorem any_no {ms : List Mv} {q : Mv → Bool} (h : ∀ (r : Nat) (m : Mv), r < ms.length → ms[r]? = some m → q m = false) : ms.any q = false := by
  rw [Bool.eq_false_iff]
  intro ha
  obtain ⟨m, hm, hq⟩ := List.any_eq_true.1 ha
  obtain ⟨r, hr, e⟩ := List.mem_iff_getElem.1 hm
  have := h r m hr (by rw [List.getElem?_eq_getElem hr, e])
  rw [hq] at this
  cases this
set_option maxRecDepth 100000 in
set_option maxHeartbeats 1000000 in
theorem idxM_got (f : Nat) (cb : Array Value) (q : Mv → Bool) (A : Option Addr) (k : Nat) (ms : List Mv) (w : World) (hen : ∀ args w, (callFunc f args).run Try.prog w = .ok (.enter f args) w) (hrm : RdM w A ms) (hln : ms.length ≤ 100000) (hp : Preds f cb ms q w) :
    Calls Try.prog 89 #[.slice A ms.length k, .func (.func f) #[] cb] w (Got w (isIx (ms.any q)).p) := by
  have HRM := Hd.mk hrm
  have HEN := Hd.mk hen
  have HP := Hd.mk hp
  clear hrm hen hp
  go_enter Try.func89, Try.ntmps89
  go_upto_region 1 with fail
  have HE : Hd (Env w []) := ⟨trivial⟩
  have HB : Hd (Below w.heap.size w w) := ⟨Below.refl _ _⟩
  refine wp_region_vd 3 [6, 7, 8] [0, 2] [] 84 [.int .i64 0, .int .i64 0] [isV (.slice A ms.length k), isV (.int .i64 (((ms.length : Nat) : Int))), isV (.int .i64 0)] (by rfl) alloc_Z ?_ ?_
  · intro qi qh qA aa wx hb hs hd
    match qi, qh, qA with
    | 0, _, _ => exact .inl ⟨rfl, op_mv rfl (hs 0 rfl)⟩
    | 1, _, _ => exact .inl ⟨rfl, op_lenvVM rfl rfl (hd 0 rfl)⟩
    | 2, _, _ => exact .inl ⟨rfl, op_mv rfl rfl⟩
    | qi + 3, h, _ => omega
  intro vs X1 hb hv hal hne
  replace HB := Hd.mk (bel_then HB.out hb)
  replace HE := Hd.mk (HE.out.to hb)
  have e6 : vs 6 = .slice A ms.length k := hv 0 (by decide) rfl
  have e7 : vs 7 = .int .i64 (((ms.length : Nat) : Int)) := hv 1 (by decide) rfl
  have e8 : vs 8 = .int .i64 0 := hv 2 (by decide) rfl
  simp only [PA, e6, e7, e8]
  clear hv hal hne hb e6 e7 e8
  go_wp2_with fail
  go_loopw [8] (fun s8 wr => ∃ j : Nat, j ≤ ms.length ∧ s8 = .int .i64 j ∧ (∀ (r : Nat) (m : Mv), r < j → ms[r]? = some m → q m = false) ∧ Below w.heap.size w wr) (fun s8 _ => ms.length - (intOf s8).toNat)
  case atStart => exact ⟨0, Nat.zero_le _, rfl, (fun r m hr => by omega), HB.out⟩
  case round =>
    obtain ⟨j, hjl, rfl, hz, hb⟩ := hrel
    clear HB HE
    have HB := Hd.mk hb
    have HZ := Hd.mk hz
    have HE : Hd (Env wr []) := ⟨trivial⟩
    clear hb hz
    by_cases hj : j < ms.length
    · obtain ⟨m, hm⟩ : ∃ m, ms[j]? = some m := ⟨_, List.getElem?_eq_getElem hj⟩
      obtain ⟨ad, rfl⟩ := HRM.out.some_ hm
      have HM := Hd.mk hm
      clear hm
      go_upto_region 3 with fail
      refine wp_region_vd 1 [10] [0] [] 84 [.int .i64 0, .int .i64 0] [isV (.int .i64 (((j : Nat) : Int)))] (by rfl) alloc_Z ?_ ?_
      · intro qi qh qA aa wx hb hs hd
        match qi, qh, qA with
        | 0, _, _ => exact .inl ⟨rfl, op_mv rfl (hs 8 rfl)⟩
        | qi + 1, h, _ => omega
      intro vs X1 hb hv hal hne
      replace HB := Hd.mk (bel_then HB.out hb)
      replace HE := Hd.mk (HE.out.to hb)
      have e10 : vs 10 = .int .i64 (((j : Nat) : Int)) := hv 0 (by decide) rfl
      simp only [PA, e10]
      clear hv hal hne hb e10
      by_cases hq : q m = true
      · have HQ := Hd.mk hq
        clear hq
        go_upto_region 4 with fail
        refine wp_region_vd 6 [11, 12, 13, 14, 15, 16] [0, 1, 2] [] 84 [.int .i64 0, .int .i64 0] [isV (.func (.func f) #[] cb), isV (.slice (some ad) ms.length k), isV (.int .i64 (((j : Nat) : Int))), isV (.pointer (some (ad.add (j * 4)))), isV (.agg #[.int .i64 m.x, .int .i64 m.y, .int .i64 m.t, .bool m.f]), isV (.bool true)] (by rfl) alloc_Z ?_ ?_
        · intro qi qh qA aa wx hb hs hd
          match qi, qh, qA with
          | 0, _, _ => exact .inl ⟨rfl, op_mv rfl (hs 1 rfl)⟩
          | 1, _, _ => exact .inl ⟨rfl, op_mv rfl (hs 0 rfl)⟩
          | 2, _, _ => exact .inl ⟨rfl, op_mv rfl (hs 5 rfl)⟩
          | 3, _, _ => exact .inl ⟨rfl, op_run rfl (op_idxVM hj rfl (hd 1 rfl) (hd 2 rfl) _) rfl⟩
          | 4, _, _ => exact .inl ⟨rfl, op_ldvVM rfl rfl (hd 3 rfl) ((HRM.out.to (bel_then HB.out hb)).at_ HM.out)⟩
          | 5, _, _ => exact .inl ⟨rfl, op_callb1 (hd 0 rfl) rfl rfl HEN.out (by rw [show aa.eval (.tmp 15) = .agg #[.int .i64 m.x, .int .i64 m.y, .int .i64 m.t, .bool m.f] from hd 4 rfl]; have h := HP.out m (List.mem_of_getElem? HM.out) wx (bel_then HB.out hb); rw [HQ.out] at h; exact h)⟩
          | qi + 6, h, _ => omega
        intro vs X2 hb hv hal hne
        replace HB := Hd.mk (bel_then HB.out hb)
        replace HE := Hd.mk (HE.out.to hb)
        have e16 : vs 16 = .bool true := hv 5 (by decide) rfl
        simp only [PA, e16]
        clear hv hal hne hb e16
        go_wp2_with fail
        go_ret
        exact ⟨_, rfl, HB.out, ((j : Nat) : Int), rfl, by rw [any_at HM.out HQ.out]; exact decide_eq_true (by omega)⟩
      have HQ : Hd (q m = false) := ⟨by simpa using hq⟩
      clear hq
      go_upto_region 4 with fail
      refine wp_region_vd 6 [11, 12, 13, 14, 15, 16] [0, 1, 2] [] 84 [.int .i64 0, .int .i64 0] [isV (.func (.func f) #[] cb), isV (.slice (some ad) ms.length k), isV (.int .i64 (((j : Nat) : Int))), isV (.pointer (some (ad.add (j * 4)))), isV (.agg #[.int .i64 m.x, .int .i64 m.y, .int .i64 m.t, .bool m.f]), isV (.bool false)] (by rfl) alloc_Z ?_ ?_
      · intro qi qh qA aa wx hb hs hd
        match qi, qh, qA with
        | 0, _, _ => exact .inl ⟨rfl, op_mv rfl (hs 1 rfl)⟩
        | 1, _, _ => exact .inl ⟨rfl, op_mv rfl (hs 0 rfl)⟩
        | 2, _, _ => exact .inl ⟨rfl, op_mv rfl (hs 5 rfl)⟩
        | 3, _, _ => exact .inl ⟨rfl, op_run rfl (op_idxVM hj rfl (hd 1 rfl) (hd 2 rfl) _) rfl⟩
        | 4, _, _ => exact .inl ⟨rfl, op_ldvVM rfl rfl (hd 3 rfl) ((HRM.out.to (bel_then HB.out hb)).at_ HM.out)⟩
        | 5, _, _ => exact .inl ⟨rfl, op_callb1 (hd 0 rfl) rfl rfl HEN.out (by rw [show aa.eval (.tmp 15) = .agg #[.int .i64 m.x, .int .i64 m.y, .int .i64 m.t, .bool m.f] from hd 4 rfl]; have h := HP.out m (List.mem_of_getElem? HM.out) wx (bel_then HB.out hb); rw [HQ.out] at h; exact h)⟩
        | qi + 6, h, _ => omega
      intro vs X2 hb hv hal hne
      replace HB := Hd.mk (bel_then HB.out hb)
      replace HE := Hd.mk (HE.out.to hb)
      have e16 : vs 16 = .bool false := hv 5 (by decide) rfl
      simp only [PA, e16]
      clear hv hal hne hb e16
      go_wp2_with fail
      go_roundw
      case rel => exact ⟨j + 1, by omega, by go_num, (fun r m' hr hm' => by
        by_cases e : r = j
        · rw [e, HM.out] at hm'
          rw [← Option.some.inj hm']
          exact HQ.out
        exact HZ.out r m' (by omega) hm'), HB.out⟩
      case measure => simp [intOf]; omega
    have e1 : j = ms.length := by omega
    have HA : Hd (ms.any q = false) := ⟨any_no (by rw [← e1]; exact HZ.out)⟩
    clear e1
    go_wp2_with fail
    go_ret
    exact ⟨_, rfl, HB.out, -1, rfl, by rw [HA.out]; rfl⟩
set_option maxRecDepth 100000 in
set_option maxHeartbeats 1000000 in
theorem contM_got (f : Nat) (cb : Array Value) (q : Mv → Bool) (A : Option Addr) (k : Nat) (ms : List Mv) (w : World) (hen : ∀ args w, (callFunc f args).run Try.prog w = .ok (.enter f args) w) (hrm : RdM w A ms) (hln : ms.length ≤ 100000) (hp : Preds f cb ms q w) :
    Calls Try.prog 71 #[.slice A ms.length k, .func (.func f) #[] cb] w (Got w (isV (.bool (ms.any q))).p) := by
  have HRM := Hd.mk hrm
  have HEN := Hd.mk hen
  have HP := Hd.mk hp
  clear hrm hen hp
  go_enter Try.func71, Try.ntmps71
  go_upto_region 1 with fail
  have HE : Hd (Env w []) := ⟨trivial⟩
  have HB : Hd (Below w.heap.size w w) := ⟨Below.refl _ _⟩
  refine wp_region_vd 4 [5, 6, 7, 8] [0, 1] [] 84 [.int .i64 0, .int .i64 0] [isV (.slice A ms.length k), isV (.func (.func f) #[] cb), isIx (ms.any q), isV (.bool (ms.any q))] (by rfl) alloc_Z ?_ ?_
  · intro qi qh qA aa wx hb hs hd
    match qi, qh, qA with
    | 0, _, _ => exact .inl ⟨rfl, op_mv rfl (hs 0 rfl)⟩
    | 1, _, _ => exact .inl ⟨rfl, op_mv rfl (hs 1 rfl)⟩
    | 2, _, _ => exact .inl ⟨rfl, op_call2 rfl rfl Try.call89 (by rw [show aa.eval (.tmp 5) = .slice A ms.length k from hd 0 rfl, show aa.eval (.tmp 6) = .func (.func f) #[] cb from hd 1 rfl]; exact idxM_got f cb q A k ms _ HEN.out (HRM.out.to (bel_then HB.out hb)) hln (fun m hm wx hx => HP.out m hm wx (below_then (bel_then HB.out hb) (bel_then HB.out hb).size hx)))⟩
    | 3, _, _ => exact .inl ⟨rfl, op_geqX rfl rfl (hd 2 rfl)⟩
    | qi + 4, h, _ => omega
  intro vs X1 hb hv hal hne
  replace HB := Hd.mk (bel_then HB.out hb)
  replace HE := Hd.mk (HE.out.to hb)
  have e8 : vs 8 = .bool (ms.any q) := hv 3 (by decide) rfl
  simp only [PA, e8]
  clear hv hal hne hb e8
  go_wp2_with fail
  go_ret
  exact ⟨_, rfl, HB.out, rfl⟩
end Go.Proofs.Ytddbmckbankmeaa
