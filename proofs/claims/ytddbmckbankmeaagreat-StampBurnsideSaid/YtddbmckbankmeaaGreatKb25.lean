/- Part 25 of the texts behind this claim. -/
import Derived.Test.YtddbmckbankmeaaGreatKb7
import Derived.Test.YtddbmckbankmeaaGreatKb22
import Derived.Test.YtddbmckbankmeaaGreatKb24
set_option linter.unusedVariables false
set_option linter.unusedSimpArgs false
namespace Go.Proofs.YtddbmckbankmeaaGreat
open Go.RowKit
section
variable {Q : Exit → Act → World → Prop} {o : Oper} {a : Act} {w : World} {d f : Nat} {R : Value → World → Prop} {x1 y x : Operand} {ts : Array TypeId} {cb : Array Value}
theorem op_callb1 (hy : a.eval y = .func (.func f) #[] cb) (ho : o.op = .call { callee := .value y, args := #[x1], argTypes := ts }) (hd : o.dst = some d)
  (hcf : ∀ args w, (callFunc f args).run Tryz.prog w = .ok (.enter f args) w) (hc : Calls Tryz.prog f (#[a.eval x1] ++ cb) w (Got w R)) : o.wp Tryz.prog a w (Post a w d R) Q := by
 have key : execOp a.eval o = callFunc f (#[] ++ #[x1].map a.eval ++ cb) := by
  obtain ⟨dst, op, type, pos, after, guard⟩ := o; simp only at ho; subst ho; unfold execOp; simp only [resolve, hy]; rfl
 unfold Oper.wp; rw [key, hcf]; simp only [Oper.upon, Array.empty_append, hd, List.map_toArray, List.map_cons, List.map_nil]; refine hc.mono ?_; rintro e w' ⟨v, rfl, hb, hr⟩; exact ⟨v, rfl, hb, hr⟩
def isIx (b : Bool) : SP := ⟨fun v w => ∃ r : Int, v = .int .i64 r ∧ decide (0 ≤ r) = b, fun v w w' h _ => h⟩
theorem op_geqX {b : Bool} (ho : o.op = .binOp .geq 3 x (.const (.int .i64 0)) 3) (hd : o.dst = some d) (hx : (isIx b).p (a.eval x) w) : o.wp Tryz.prog a w (Post a w d (isV (.bool b)).p) Q := by
 obtain ⟨r, e, h⟩ := hx; subst h; refine op_run (v := .bool (decide (0 ≤ r))) hd ?_ rfl; have hc : a.eval (.const (.int .i64 0)) = .int .i64 0 := rfl; generalize a.eval = ev at e hc ⊢; unfold execOp; simp only [ho]; simp [go_sem, e, hc]
end
def Preds (f : Nat) (cb : Array Value) (ms : List Mv) (q : Mv → Bool) (w : World) : Prop := ∀ m ∈ ms, ∀ wx, Below w.heap.size w wx → Calls Tryz.prog f (#[.agg #[.int .i64 m.x, .int .i64 m.y, .int .i64 m.t, .bool m.f]] ++ cb) wx (Got wx (isV (.bool (q m))).p)
theorem any_at {ms : List Mv} {q : Mv → Bool} {m : Mv} {j : Nat} (hm : ms[j]? = some m) (h : q m = true) : ms.any q = true := List.any_eq_true.2 ⟨m, List.mem_of_getElem? hm, h⟩
theorem any_no {ms : List Mv} {q : Mv → Bool} (h : ∀ (r : Nat) (m : Mv), r < ms.length → ms[r]? = some m → q m = false) : ms.any q = false := by
 rw [Bool.eq_false_iff]; intro ha; obtain ⟨m, hm, hq⟩ := List.any_eq_true.1 ha; obtain ⟨r, hr, e⟩ := List.mem_iff_getElem.1 hm; have := h r m hr (by rw [List.getElem?_eq_getElem hr, e]); rw [hq] at this; cases this
set_option maxRecDepth 100000 in
set_option maxHeartbeats 1000000 in
theorem idxM_got (f : Nat) (cb : Array Value) (q : Mv → Bool) (A : Option Addr) (k : Nat) (ms : List Mv) (w : World) (hen : ∀ args w, (callFunc f args).run Tryz.prog w = .ok (.enter f args) w) (hrm : RdM w A ms) (hln : ms.length ≤ 100000) (hp : Preds f cb ms q w) :
  Calls Tryz.prog 68 #[.slice A ms.length k, .func (.func f) #[] cb] w (Got w (isIx (ms.any q)).p) := by
 have HRM := Hd.mk hrm; have HEN := Hd.mk hen; have HP := Hd.mk hp; clear hrm hen hp; go_enter Tryz.func68, Tryz.ntmps68
 go_upto_region 1 with fail
 have HE : Hd (Env w []) := ⟨trivial⟩; have HB : Hd (Below w.heap.size w w) := ⟨Below.refl _ _⟩; refine wp_region_vd 3 [6, 7, 8] [0, 2] [] 63 [.int .i64 0, .int .i64 0] [isV (.slice A ms.length k), qI ((ms.length : Nat) : Int), qI 0] (by rfl) alloc_Z ?_ ?_
 ·intro qi qh qA aa wx hb hs hd
  match qi, qh, qA with
  | 0, _, _ => exact aL (op_mv rfl (hs 0 rfl)) | 1, _, _ => exact aL (op_lenvVM rfl rfl (hd 0 rfl)) | 2, _, _ => exact aL (op_mv rfl rfl) | qi + 3, h, _ => omega
 intro vs X1 hb hv hal hne; replace HB := Hd.mk (bel_then HB.out hb); replace HE := Hd.mk (HE.out.to hb); have e6 : vs 6 = .slice A ms.length k := hv 0 (by decide) rfl; have e7 : vs 7 = .int .i64 (((ms.length : Nat) : Int)) := hv 1 (by decide) rfl; have e8 : vs 8 = .int .i64 0 := hv 2 (by decide) rfl; simp only [PA, e6, e7, e8]; clear hv hal hne hb e6 e7 e8; go_wp2_with fail
 go_loopw [8] (fun s8 wr => ∃ j : Nat, j ≤ ms.length ∧ s8 = .int .i64 j ∧ (∀ (r : Nat) (m : Mv), r < j → ms[r]? = some m → q m = false) ∧ Below w.heap.size w wr) (fun s8 _ => ms.length - (intOf s8).toNat)
 case atStart => exact ⟨0, Nat.zero_le _, rfl, (fun r m hr => by omega), HB.out⟩
 case round =>
  obtain ⟨j, hjl, rfl, hz, hb⟩ := hrel; clear HB HE; have HB := Hd.mk hb; have HZ := Hd.mk hz; have HE : Hd (Env wr []) := ⟨trivial⟩; clear hb hz; by_cases hj : j < ms.length
  ·obtain ⟨m, hm⟩ : ∃ m, ms[j]? = some m := ⟨_, List.getElem?_eq_getElem hj⟩; obtain ⟨ad, rfl⟩ := HRM.out.some_ hm; have HM := Hd.mk hm; clear hm; go_upto_region 3 with fail
   refine wp_region_vd 1 [10] [0] [] 63 [.int .i64 0, .int .i64 0] [qI ((j : Nat) : Int)] (by rfl) alloc_Z ?_ ?_
   ·intro qi qh qA aa wx hb hs hd
    match qi, qh, qA with
    | 0, _, _ => exact aL (op_mv rfl (hs 8 rfl)) | qi + 1, h, _ => omega
   intro vs X1 hb hv hal hne; replace HB := Hd.mk (bel_then HB.out hb); replace HE := Hd.mk (HE.out.to hb); have e10 : vs 10 = .int .i64 (((j : Nat) : Int)) := hv 0 (by decide) rfl; simp only [PA, e10]; clear hv hal hne hb e10; by_cases hq : q m = true
   ·have HQ := Hd.mk hq; clear hq; go_upto_region 4 with fail
    refine wp_region_vd 6 [11, 12, 13, 14, 15, 16] [0, 1, 2] [] 63 [.int .i64 0, .int .i64 0] [isV (.func (.func f) #[] cb), isV (.slice (some ad) ms.length k), qI ((j : Nat) : Int), isV (.pointer (some (ad.add (j * 4)))), isV (.agg #[.int .i64 m.x, .int .i64 m.y, .int .i64 m.t, .bool m.f]), qT] (by rfl) alloc_Z ?_ ?_
    ·intro qi qh qA aa wx hb hs hd
     match qi, qh, qA with
     | 0, _, _ => exact aL (op_mv rfl (hs 1 rfl)) | 1, _, _ => exact aL (op_mv rfl (hs 0 rfl)) | 2, _, _ => exact aL (op_mv rfl (hs 5 rfl)) | 3, _, _ => exact aL (op_run rfl (op_idxVM hj rfl (hd 1 rfl) (hd 2 rfl) _) rfl) | 4, _, _ => exact aL (op_ldvVM rfl rfl (hd 3 rfl) ((HRM.out.to (bel_then HB.out hb)).at_ HM.out)) | 5, _, _ => exact aL (op_callb1 (hd 0 rfl) rfl rfl HEN.out (by rw [show aa.eval (.tmp 15) = .agg #[.int .i64 m.x, .int .i64 m.y, .int .i64 m.t, .bool m.f] from hd 4 rfl]; have h := HP.out m (List.mem_of_getElem? HM.out) wx (bel_then HB.out hb); rw [HQ.out] at h; exact h)) | qi + 6, h, _ => omega
    intro vs X2 hb hv hal hne; replace HB := Hd.mk (bel_then HB.out hb); replace HE := Hd.mk (HE.out.to hb); have e16 : vs 16 = .bool true := hv 5 (by decide) rfl; simp only [PA, e16]; clear hv hal hne hb e16; go_wp2_with fail
    go_ret
    exact ⟨_, rfl, HB.out, ((j : Nat) : Int), rfl, by rw [any_at HM.out HQ.out]; exact decide_eq_true (by omega)⟩
   have HQ : Hd (q m = false) := ⟨by simpa using hq⟩; clear hq; go_upto_region 4 with fail
   refine wp_region_vd 6 [11, 12, 13, 14, 15, 16] [0, 1, 2] [] 63 [.int .i64 0, .int .i64 0] [isV (.func (.func f) #[] cb), isV (.slice (some ad) ms.length k), qI ((j : Nat) : Int), isV (.pointer (some (ad.add (j * 4)))), isV (.agg #[.int .i64 m.x, .int .i64 m.y, .int .i64 m.t, .bool m.f]), qF] (by rfl) alloc_Z ?_ ?_
   ·intro qi qh qA aa wx hb hs hd
    match qi, qh, qA with
    | 0, _, _ => exact aL (op_mv rfl (hs 1 rfl)) | 1, _, _ => exact aL (op_mv rfl (hs 0 rfl)) | 2, _, _ => exact aL (op_mv rfl (hs 5 rfl)) | 3, _, _ => exact aL (op_run rfl (op_idxVM hj rfl (hd 1 rfl) (hd 2 rfl) _) rfl) | 4, _, _ => exact aL (op_ldvVM rfl rfl (hd 3 rfl) ((HRM.out.to (bel_then HB.out hb)).at_ HM.out)) | 5, _, _ => exact aL (op_callb1 (hd 0 rfl) rfl rfl HEN.out (by rw [show aa.eval (.tmp 15) = .agg #[.int .i64 m.x, .int .i64 m.y, .int .i64 m.t, .bool m.f] from hd 4 rfl]; have h := HP.out m (List.mem_of_getElem? HM.out) wx (bel_then HB.out hb); rw [HQ.out] at h; exact h)) | qi + 6, h, _ => omega
   intro vs X2 hb hv hal hne; replace HB := Hd.mk (bel_then HB.out hb); replace HE := Hd.mk (HE.out.to hb); have e16 : vs 16 = .bool false := hv 5 (by decide) rfl; simp only [PA, e16]; clear hv hal hne hb e16; go_wp2_with fail
   go_roundw
   case rel => exact ⟨j + 1, by omega, by go_num, (fun r m' hr hm' => by
    by_cases e : r = j
    ·rw [e, HM.out] at hm'; rw [← Option.some.inj hm']; exact HQ.out
    exact HZ.out r m' (by omega) hm'), HB.out⟩
   case measure => simp [intOf]; omega
  have e1 : j = ms.length := by omega
  have HA : Hd (ms.any q = false) := ⟨any_no (by rw [← e1]; exact HZ.out)⟩; clear e1; go_wp2_with fail
  go_ret
  exact ⟨_, rfl, HB.out, -1, rfl, by rw [HA.out]; rfl⟩
set_option maxRecDepth 100000 in
set_option maxHeartbeats 1000000 in
theorem contM_got (f : Nat) (cb : Array Value) (q : Mv → Bool) (A : Option Addr) (k : Nat) (ms : List Mv) (w : World) (hen : ∀ args w, (callFunc f args).run Tryz.prog w = .ok (.enter f args) w) (hrm : RdM w A ms) (hln : ms.length ≤ 100000) (hp : Preds f cb ms q w) :
  Calls Tryz.prog 30 #[.slice A ms.length k, .func (.func f) #[] cb] w (Got w (isV (.bool (ms.any q))).p) := by
 have HRM := Hd.mk hrm; have HEN := Hd.mk hen; have HP := Hd.mk hp; clear hrm hen hp; go_enter Tryz.func30, Tryz.ntmps30
 go_upto_region 1 with fail
 have HE : Hd (Env w []) := ⟨trivial⟩; have HB : Hd (Below w.heap.size w w) := ⟨Below.refl _ _⟩; refine wp_region_vd 4 [5, 6, 7, 8] [0, 1] [] 63 [.int .i64 0, .int .i64 0] [isV (.slice A ms.length k), isV (.func (.func f) #[] cb), isIx (ms.any q), isV (.bool (ms.any q))] (by rfl) alloc_Z ?_ ?_
 ·intro qi qh qA aa wx hb hs hd
  match qi, qh, qA with
  | 0, _, _ => exact aL (op_mv rfl (hs 0 rfl)) | 1, _, _ => exact aL (op_mv rfl (hs 1 rfl)) | 2, _, _ => exact aL (op_call2 rfl rfl Tryz.call68 (by rw [show aa.eval (.tmp 5) = .slice A ms.length k from hd 0 rfl, show aa.eval (.tmp 6) = .func (.func f) #[] cb from hd 1 rfl]; exact idxM_got f cb q A k ms _ HEN.out (HRM.out.to (bel_then HB.out hb)) hln (fun m hm wx hx => HP.out m hm wx (below_then (bel_then HB.out hb) (bel_then HB.out hb).size hx)))) | 3, _, _ => exact aL (op_geqX rfl rfl (hd 2 rfl)) | qi + 4, h, _ => omega
 intro vs X1 hb hv hal hne; replace HB := Hd.mk (bel_then HB.out hb); replace HE := Hd.mk (HE.out.to hb); have e8 : vs 8 = .bool (ms.any q) := hv 3 (by decide) rfl; simp only [PA, e8]; clear hv hal hne hb e8; go_wp2_with fail
 go_ret
 exact ⟨_, rfl, HB.out, rfl⟩
set_option maxRecDepth 100000 in
set_option maxHeartbeats 1000000 in
theorem List1_got (Wd Ht : Int) (m : Mv) (gz gs : Nat) (bd : Addr) (c : Nat) (xs : List Int) (w : World) (hz : Blk w gz 63 [.int .i64 Wd, .int .i64 Ht]) (hs : Blk w gs 43 [.int .i64 Wd, .int .i64 Ht, .slice (some bd) xs.length c]) (hri : RI w (some bd) xs) (hal : Al Wd Ht m) (hvl : (xs.length : Int) = Wd * Ht) (hsh : xs.length ≤ 64) :
  Calls Tryz.prog 31 #[.agg #[.int .i64 m.x, .int .i64 m.y, .int .i64 m.t, .bool m.f], .pointer (some ⟨gz, 0, none⟩), .pointer (some ⟨gs, 0, none⟩)] w (Got w (isV (.bool (decide (cmpL (apM Wd Ht m xs) xs < 0)))).p) := by
 have HZ := Hd.mk hz; have HS := Hd.mk hs; have HRI := Hd.mk hri; have HAL := Hd.mk hal; have HVL := Hd.mk hvl; clear hz hs hri hal hvl; go_enter Tryz.func31, Tryz.ntmps31
 go_upto_region 1 with fail
 obtain ⟨W0, hW0⟩ : ∃ W : World, W = w.alloc (.cells #[.int .i64 m.x, .int .i64 m.y, .int .i64 m.t, .bool m.f] 65) := ⟨_, rfl⟩; rw [← hW0]; obtain ⟨he, hb⟩ := env_one hW0; have HE := Hd.mk he; have HB := Hd.mk hb; clear he hb hW0; refine wp_region_vs 8 [5, 6, 7, 8, 9, 10, 11, 4] [6, 7] [] 63 [.int .i64 0, .int .i64 0] [isV (.agg #[.int .i64 Wd, .int .i64 Ht]), isV (.agg #[.int .i64 m.x, .int .i64 m.y, .int .i64 m.t, .bool m.f]), isV (.agg #[.int .i64 Wd, .int .i64 Ht, .slice (some bd) xs.length c]), isFS W0.heap.size Wd Ht (apM Wd Ht m xs), isV (.agg #[.int .i64 Wd, .int .i64 Ht, .slice (some bd) xs.length c]), qI (cmpL (apM Wd Ht m xs) xs), isV (.bool (decide ((cmpL (apM Wd Ht m xs) xs) < 0))), isV (.bool (decide ((cmpL (apM Wd Ht m xs) xs) < 0)))] (by kernel_rfl) (by kernel_rfl) (by kernel_rfl) (by rfl) alloc_Z (fun d v c a w h => by cases d <;> exact h) ?_ ?_
 ·intro qi qh qA aa wx hb hs hd
  match qi, qh, qA with
  | 0, _, _ => exact op_ldZ rfl rfl (hs 1 rfl) (HZ.out.to (bel_then HB.out hb)) | 1, _, _ => exact op_ldM rfl rfl (hs 3 rfl) ((HE.out.to hb).get 0 rfl) | 2, _, _ => exact op_ldT rfl rfl (hs 2 rfl) (HS.out.to (bel_then HB.out hb)) | 3, _, _ => exact op_call3 rfl rfl Tryz.call33 (by rw [(show aa.eval (.tmp 5) = .agg #[.int .i64 Wd, .int .i64 Ht] from (hd 0 rfl)), (show aa.eval (.tmp 6) = .agg #[.int .i64 m.x, .int .i64 m.y, .int .i64 m.t, .bool m.f] from (hd 1 rfl)), (show aa.eval (.tmp 7) = .agg #[.int .i64 Wd, .int .i64 Ht, .slice (some bd) xs.length c] from (hd 2 rfl))]; exact got_fs hb.size (apply_got Wd Ht m.x m.y m.t m.f bd c xs _ (HRI.out.to (bel_then HB.out hb)) HAL.out.okm HVL.out)) | 4, _, _ => exact op_ldT rfl rfl (hs 2 rfl) (HS.out.to (bel_then HB.out hb)) | 5, _, _ => exact op_call2 rfl rfl Tryz.call32 (by obtain ⟨g0, k0, rest0, e0, _, _, _, b0⟩ := hd 3 rfl; rw [show aa.eval (.tmp 8) = _ from e0, show aa.eval (.tmp 9) = _ from hd 4 rfl]; exact cmpT_got Wd Ht ⟨some ⟨g0, 0, none⟩, k0, apM Wd Ht m xs⟩ ⟨some bd, c, xs⟩ _ b0.ri (HRI.out.to (bel_then HB.out hb)) (by show (apM Wd Ht m xs).length ≤ _; rw [apM_length]; omega) (by show xs.length ≤ _; omega)) | 6, _, _ => exact ⟨_, op_lssI rfl (hd 5 rfl) rfl, rfl⟩ | 7, _, _ => exact op_asg rfl (hd 6 rfl) | qi + 8, h, _ => omega
 intro vs X1 hb hv hal hne; replace HB := Hd.mk (bel_then HB.out hb); replace HE := Hd.mk (HE.out.to hb); have e4 : vs 4 = .bool (decide ((cmpL (apM Wd Ht m xs) xs) < 0)) := hv 7 (by decide) rfl; simp only [PA, e4]; clear hv hal hne hb e4; go_wp2_with fail
 go_ret
 exact ⟨_, rfl, HB.out, rfl⟩
theorem op_mkF2 {o : Oper} {a : Act} {x y : Operand} {f : FuncId} {u v : Value} (ho : o.op = .makeFunc (.func f) #[] #[x, y]) (h0 : a.eval x = u) (h1 : a.eval y = v) (w : World) : (execOp a.eval o).run Tryz.prog w = .ok (.value (.func (.func f) #[] #[u, v])) w := by
 generalize a.eval = ev at h0 h1 ⊢; unfold execOp; simp only [ho]; simp [go_sem, h0, h1]
theorem set_rep (i : Nat) (x : Int) (tl : List Int) : (List.replicate (i + 1) (0 : Int) ++ tl).set i x = List.replicate i 0 ++ x :: tl := by
 rw [List.replicate_succ', List.append_assoc, List.set_append_right _ _ (by simp), List.length_replicate, Nat.sub_self]; rfl
def OkB (w : World) (B : Nat) (ts : List Sl) : Prop := ∀ s ∈ ts, s.ok w ∧ ∀ ad, s.A = some ad → ad.block < B
theorem OkB.to {w w' : World} {B : Nat} {ts : List Sl} (h : OkB w B ts) (hb : Below w.heap.size w w') : OkB w' B ts := fun s hs => ⟨(h s hs).1.to hb, (h s hs).2⟩
theorem OkB.putB {w : World} {B g o : Nat} {ts : List Sl} {t : TypeId} {us vs : List Value} (h : OkB w B ts) (hb : Blk w g t us) (ht : t ≠ 3 ∨ B ≤ g := by first | exact .inl (by decide) | exact .inr (Nat.le_refl _)) : OkB (putL w g o vs) B ts := fun s hs => by
 refine ⟨⟨(h s hs).1.1.by_ (putL_by vs w o) fun ad e => ?_, (h s hs).1.2⟩, (h s hs).2⟩; rcases ht with ht | ht
 ·exact ((h s hs).1.1.ne hb ht ad e).1
 exact Nat.ne_of_lt (Nat.lt_of_lt_of_le ((h s hs).2 ad e) ht)
theorem OkT.bound {w : World} {ts : List Sl} (h : OkT w ts) : OkB w w.heap.size ts := fun s hs => ⟨h s hs, fun ad e => by
 obtain ⟨cur, hc⟩ := (h s hs).1.2 ad e
 exact (Array.getElem?_eq_some_iff.1 hc).1⟩
theorem OkB.more {w : World} {B B' : Nat} {ts : List Sl} (h : OkB w B ts) (hB : B ≤ B') : OkB w B' ts := fun s hs => ⟨(h s hs).1, fun ad e => Nat.lt_of_lt_of_le ((h s hs).2 ad e) hB⟩
theorem OkB.ok {w : World} {B : Nat} {ts : List Sl} (h : OkB w B ts) : OkT w ts := fun s hs => (h s hs).1
theorem tmod_nat (r K : Nat) : Int.tmod (r : Int) (K : Int) = ((r % K : Nat) : Int) := rfl
theorem tdiv_nat (r K : Nat) : Int.tdiv (r : Int) (K : Int) = ((r / K : Nat) : Int) := rfl
theorem list_yes {W H : Int} {ms : List Mv} {K N n : Nat} (h : repB W H ms (dgs K N n) = true) : ((List.range (n + 1)).map (dgs K N)).filter (repB W H ms) = ((List.range n).map (dgs K N)).filter (repB W H ms) ++ [dgs K N n] := by
 rw [List.range_succ, List.map_append, List.filter_append]; simp [h]
theorem list_no {W H : Int} {ms : List Mv} {K N n : Nat} (h : repB W H ms (dgs K N n) = false) : ((List.range (n + 1)).map (dgs K N)).filter (repB W H ms) = ((List.range n).map (dgs K N)).filter (repB W H ms) := by
 rw [List.range_succ, List.map_append, List.filter_append]; simp [h]
set_option maxRecDepth 100000 in
set_option maxHeartbeats 1000000 in
theorem List_no (Wd Ht : Int) (K : Nat) (A : Option Addr) (k : Nat) (ms : List Mv) (w : World) (hrm : RdM w A ms) (hln : ms.length ≤ 100000) (hs : sizeB Wd Ht = true) (hK : 1 ≤ K ∧ K ≤ 8) (hg : gB Wd Ht ms = false) :
  Calls Tryz.prog 7 #[.int .i64 Wd, .int .i64 Ht, .int .i64 (((K : Nat) : Int)), .slice A ms.length k] w (Got w (isP (isV (.slice none 0 0)) (isV (.int .i64 2))).p) := by
 have HRM := Hd.mk hrm; have HS := Hd.mk hs; have HG := Hd.mk hg; clear hrm hs hg; go_enter Tryz.func7, Tryz.ntmps7
 go_upto_region 1 with fail
 have HE : Hd (Env w []) := ⟨trivial⟩; have HB : Hd (Below w.heap.size w w) := ⟨Below.refl _ _⟩; refine wp_region_vd 4 [16, 17, 18, 10] [0, 1, 2] [3] 63 [.int .i64 0, .int .i64 0] [qI Wd, qI Ht, isV (.agg #[.int .i64 Wd, .int .i64 Ht]), SP.any] (by rfl) alloc_Z ?_ ?_
 ·intro qi qh qA aa wx hb hs hd
  match qi, qh, qA with
  | 0, _, _ => exact aL (op_mv rfl (hs 0 rfl)) | 1, _, _ => exact aL (op_mv rfl (hs 1 rfl)) | 2, _, _ => exact aL ⟨_, op_buZ rfl (hd 0 rfl) (hd 1 rfl), rfl⟩ | 3, _, h => cases h | qi + 4, h, _ => omega
 intro vs X1 hb hv hal hne; have HL0 := Hd.mk (HE.out.lt); have HBW := HB; replace HB := Hd.mk (bel_then HB.out hb); replace HE := Hd.mk (HE.out.to hb); have e18 : vs 18 = .agg #[.int .i64 Wd, .int .i64 Ht] := hv 2 (by decide) rfl; obtain ⟨g10, e10, l10, b10⟩ : ∃ g, vs 10 = .pointer (some ⟨g, 0, none⟩) ∧ _ := hal 3 rfl; replace HE : Hd (Env X1 [⟨g10, 63, [.int .i64 0, .int .i64 0]⟩]) := ⟨Env.addne (e := ⟨g10, 63, [.int .i64 0, .int .i64 0]⟩) HE.out b10 (fun e' he => Nat.ne_of_lt (Nat.lt_of_lt_of_le (HL0.out e' he) l10))⟩; have G10 : Hd (w.heap.size ≤ g10) := ⟨Nat.le_trans HBW.out.size l10⟩; simp only [PA, e18, e10]; clear hv hal hne hb HL0 HBW e18 e10 l10 b10; refine wpList_st rfl rfl rfl rfl rfl (sto_Z (HE.out.get 0 rfl)) ?_; have HE' : Env (putL X1 g10 0 [.int .i64 Wd, .int .i64 Ht]) [⟨g10, 63, [.int .i64 Wd, .int .i64 Ht]⟩] := HE.out.putF 0 rfl rfl; have HB' := putL_below (show w.heap.size ≤ g10 from G10.out) [.int .i64 Wd, .int .i64 Ht] _ 0 HB.out; generalize putL X1 g10 0 [.int .i64 Wd, .int .i64 Ht] = X2 at *; replace HE := Hd.mk HE'; replace HB := Hd.mk HB'; clear HE' HB'; go_upto_region 2 with fail
 refine wp_region_vd 17 [19, 20, 21, 22, 23, 24, 25, 26, 27, 28, 29, 30, 31, 32, 33, 34, 35] [2, 3, 4, 5, 6, 7, 8, 9, 10, 11, 13, 15, 16] [] 63 [.int .i64 0, .int .i64 0] [isV (.agg #[.int .i64 Wd, .int .i64 Ht]), qT, qF, qF, qI ((K : Nat) : Int), qF, qF, qF, qI ((K : Nat) : Int), qF, qF, qF, isV (.agg #[.int .i64 Wd, .int .i64 Ht]), isV (.slice A ms.length k), qF, qT, qT] (by rfl) alloc_Z ?_ ?_
 ·intro qi qh qA aa wx hb hs hd
  match qi, qh, qA with
  | 0, _, _ => exact aL (op_ldZ rfl rfl (hs 10 rfl) ((HE.out.to hb).get 0 rfl)) | 1, _, _ => exact aL (wp_b (bool_eq HS.out) (op_call1 rfl rfl Tryz.call22 (by rw [(show aa.eval (.tmp 19) = .agg #[.int .i64 Wd, .int .i64 Ht] from (hd 0 rfl))]; exact valid_got Wd Ht _))) | 2, _, _ => exact aL ⟨_, op_not rfl (hd 1 rfl), rfl⟩ | 3, _, _ => exact aL (op_mv rfl (hd 2 rfl)) | 4, _, _ => exact aG (hd 3 rfl) (op_mv rfl (hs 2 rfl)) | 5, _, _ => exact aG (hd 3 rfl) (pure_b (bool_eq (decide_eq_false (by omega))) (⟨_, op_lssI rfl (hd 4 rfl) rfl, rfl⟩)) | 6, _, _ => exact aL ⟨_, op_pickF rfl (hd 3 rfl) (hd 5 rfl), rfl⟩ | 7, _, _ => exact aL (op_mv rfl (hd 6 rfl)) | 8, _, _ => exact aG (hd 7 rfl) (op_mv rfl (hs 2 rfl)) | 9, _, _ => exact aG (hd 7 rfl) (pure_b (bool_eq (decide_eq_false (by omega))) (⟨_, op_gtrI rfl (hd 8 rfl) rfl, rfl⟩)) | 10, _, _ => exact aL ⟨_, op_pickF rfl (hd 7 rfl) (hd 9 rfl), rfl⟩ | 11, _, _ => exact aL (op_mv rfl (hd 10 rfl)) | 12, _, _ => exact aG (hd 11 rfl) (op_ldZ rfl rfl (hs 10 rfl) ((HE.out.to hb).get 0 rfl)) | 13, _, _ => exact aG (hd 11 rfl) (op_mv rfl (hs 3 rfl)) | 14, _, _ => exact aG (hd 11 rfl) (wp_b (bool_eq HG.out) (op_call2 rfl rfl Tryz.call23 (by rw [(show aa.eval (.tmp 31) = .agg #[.int .i64 Wd, .int .i64 Ht] from (hd 12 rfl)), (show aa.eval (.tmp 32) = .slice A ms.length k from (hd 13 rfl))]; exact group_got Wd Ht A k ms _ (HRM.out.to (bel_then HB.out hb)) (by omega) HS.out))) | 15, _, _ => exact aG (hd 11 rfl) ⟨_, op_not rfl (hd 14 rfl), rfl⟩ | 16, _, _ => exact aL ⟨_, op_pickF rfl (hd 11 rfl) (hd 15 rfl), rfl⟩ | qi + 17, h, _ => omega
 intro vs X3 hb hv hal hne; replace HB := Hd.mk (bel_then HB.out hb); replace HE := Hd.mk (HE.out.to hb); have e35 : vs 35 = .bool true := hv 16 (by decide) rfl; simp only [PA, e35]; clear hv hal hne hb e35; go_upto_region 3 with fail
 refine wp_region_vd 0 [] [] [] 63 [.int .i64 0, .int .i64 0] [] (by rfl) alloc_Z ?_ ?_
 ·intro qi qh qA aa wx hb hs hd
  match qi, qh, qA with
  | qi + 0, h, _ => omega
 intro vs X4 hb hv hal hne; replace HB := Hd.mk (bel_then HB.out hb); replace HE := Hd.mk (HE.out.to hb); simp only [PA]; clear hv hal hne hb; go_wp2_with fail
 refine bodyPost_ret (v := .tuple #[.slice none 0 0, .int .i64 2]) (by simp [results, Tryz.results7, go_sem]) rfl ?_; exact ⟨_, rfl, HB.out, _, _, rfl, rfl, rfl⟩
set_option maxRecDepth 100000 in
set_option maxHeartbeats 1000000 in
theorem List_ok (Wd Ht : Int) (K N : Nat) (A : Option Addr) (k : Nat) (ms : List Mv) (w : World) (hrm : RdM w A ms) (hln : ms.length ≤ 100000) (hs : sizeB Wd Ht = true) (hK : 1 ≤ K ∧ K ≤ 8) (hg : gB Wd Ht ms = true) (hN : (N : Int) = Wd * Ht) (hM : K ^ N ≤ 4096) :
  Calls Tryz.prog 7 #[.int .i64 Wd, .int .i64 Ht, .int .i64 (((K : Nat) : Int)), .slice A ms.length k] w (Got w (isP (isTs w.heap.size Wd Ht (listL Wd Ht ms K N)) (isV (.int .i64 0))).p) := by
 have hwh := sizeB_bounds hs; have hn64 : N ≤ 64 := by have := mul_small (a := Wd) (b := Ht) (by omega) (by omega); omega
 have HN64 := Hd.mk hn64; have HNN := Hd.mk hN.symm; have HGP := Hd.mk (gp_of hs hg); have HAM := Hd.mk HGP.out.al; have HNE := Hd.mk (listL_ne HGP.out hs hN (by omega) hK.2); obtain ⟨pw, hpw⟩ : ∃ pw : Nat → Nat, pw = fun i => K ^ i := ⟨_, rfl⟩
 have HP0 : Hd (pw 0 = 1) := ⟨by rw [hpw]; rfl⟩; have HPS : Hd (∀ i, pw (i + 1) = pw i * K) := ⟨fun i => by rw [hpw]; exact Nat.pow_succ ..⟩; have HPL : Hd (∀ i, i ≤ N → pw i ≤ 4096) := ⟨fun i hi => by rw [hpw]; exact Nat.le_trans (Nat.pow_le_pow_right (by omega) hi) hM⟩; obtain ⟨M, hMM⟩ : ∃ M, M = K ^ N := ⟨_, rfl⟩; have HMK := Hd.mk hMM.symm; have HPM : Hd (pw N = M) := ⟨by rw [hpw, hMM]⟩; have hM2 : M ≤ 4096 := by rw [hMM]; exact hM
 have HRM := Hd.mk hrm; have HS := Hd.mk hs; have HG := Hd.mk hg; clear hrm hs hg hN hM hMM hpw; go_enter Tryz.func7, Tryz.ntmps7
 go_upto_region 1 with fail
 have HE : Hd (Env w []) := ⟨trivial⟩; have HB : Hd (Below w.heap.size w w) := ⟨Below.refl _ _⟩; refine wp_region_vd 4 [16, 17, 18, 10] [0, 1, 2] [3] 63 [.int .i64 0, .int .i64 0] [qI Wd, qI Ht, isV (.agg #[.int .i64 Wd, .int .i64 Ht]), SP.any] (by rfl) alloc_Z ?_ ?_
 ·intro qi qh qA aa wx hb hs hd
  match qi, qh, qA with
  | 0, _, _ => exact aL (op_mv rfl (hs 0 rfl)) | 1, _, _ => exact aL (op_mv rfl (hs 1 rfl)) | 2, _, _ => exact aL ⟨_, op_buZ rfl (hd 0 rfl) (hd 1 rfl), rfl⟩ | 3, _, h => cases h | qi + 4, h, _ => omega
 intro vs X1 hb hv hal hne; have HL0 := Hd.mk (HE.out.lt); have HBW := HB; replace HB := Hd.mk (bel_then HB.out hb); replace HE := Hd.mk (HE.out.to hb); have e18 : vs 18 = .agg #[.int .i64 Wd, .int .i64 Ht] := hv 2 (by decide) rfl; obtain ⟨g10, e10, l10, b10⟩ : ∃ g, vs 10 = .pointer (some ⟨g, 0, none⟩) ∧ _ := hal 3 rfl; replace HE : Hd (Env X1 [⟨g10, 63, [.int .i64 0, .int .i64 0]⟩]) := ⟨Env.addne (e := ⟨g10, 63, [.int .i64 0, .int .i64 0]⟩) HE.out b10 (fun e' he => Nat.ne_of_lt (Nat.lt_of_lt_of_le (HL0.out e' he) l10))⟩; have G10 : Hd (w.heap.size ≤ g10) := ⟨Nat.le_trans HBW.out.size l10⟩; simp only [PA, e18, e10]; clear hv hal hne hb HL0 HBW e18 e10 l10 b10; refine wpList_st rfl rfl rfl rfl rfl (sto_Z (HE.out.get 0 rfl)) ?_; have HE' : Env (putL X1 g10 0 [.int .i64 Wd, .int .i64 Ht]) [⟨g10, 63, [.int .i64 Wd, .int .i64 Ht]⟩] := HE.out.putF 0 rfl rfl; have HB' := putL_below (show w.heap.size ≤ g10 from G10.out) [.int .i64 Wd, .int .i64 Ht] _ 0 HB.out; generalize putL X1 g10 0 [.int .i64 Wd, .int .i64 Ht] = X2 at *; replace HE := Hd.mk HE'; replace HB := Hd.mk HB'; clear HE' HB'; go_upto_region 2 with fail
 refine wp_region_vd 17 [19, 20, 21, 22, 23, 24, 25, 26, 27, 28, 29, 30, 31, 32, 33, 34, 35] [2, 3, 4, 5, 6, 7, 8, 9, 10, 11, 13, 15, 16] [] 63 [.int .i64 0, .int .i64 0] [isV (.agg #[.int .i64 Wd, .int .i64 Ht]), qT, qF, qF, qI ((K : Nat) : Int), qF, qF, qF, qI ((K : Nat) : Int), qF, qF, qF, isV (.agg #[.int .i64 Wd, .int .i64 Ht]), isV (.slice A ms.length k), qT, qF, qF] (by rfl) alloc_Z ?_ ?_
 ·intro qi qh qA aa wx hb hs hd
  match qi, qh, qA with
  | 0, _, _ => exact aL (op_ldZ rfl rfl (hs 10 rfl) ((HE.out.to hb).get 0 rfl)) | 1, _, _ => exact aL (wp_b (bool_eq HS.out) (op_call1 rfl rfl Tryz.call22 (by rw [(show aa.eval (.tmp 19) = .agg #[.int .i64 Wd, .int .i64 Ht] from (hd 0 rfl))]; exact valid_got Wd Ht _))) | 2, _, _ => exact aL ⟨_, op_not rfl (hd 1 rfl), rfl⟩ | 3, _, _ => exact aL (op_mv rfl (hd 2 rfl)) | 4, _, _ => exact aG (hd 3 rfl) (op_mv rfl (hs 2 rfl)) | 5, _, _ => exact aG (hd 3 rfl) (pure_b (bool_eq (decide_eq_false (by omega))) (⟨_, op_lssI rfl (hd 4 rfl) rfl, rfl⟩)) | 6, _, _ => exact aL ⟨_, op_pickF rfl (hd 3 rfl) (hd 5 rfl), rfl⟩ | 7, _, _ => exact aL (op_mv rfl (hd 6 rfl)) | 8, _, _ => exact aG (hd 7 rfl) (op_mv rfl (hs 2 rfl)) | 9, _, _ => exact aG (hd 7 rfl) (pure_b (bool_eq (decide_eq_false (by omega))) (⟨_, op_gtrI rfl (hd 8 rfl) rfl, rfl⟩)) | 10, _, _ => exact aL ⟨_, op_pickF rfl (hd 7 rfl) (hd 9 rfl), rfl⟩ | 11, _, _ => exact aL (op_mv rfl (hd 10 rfl)) | 12, _, _ => exact aG (hd 11 rfl) (op_ldZ rfl rfl (hs 10 rfl) ((HE.out.to hb).get 0 rfl)) | 13, _, _ => exact aG (hd 11 rfl) (op_mv rfl (hs 3 rfl)) | 14, _, _ => exact aG (hd 11 rfl) (wp_b (bool_eq HG.out) (op_call2 rfl rfl Tryz.call23 (by rw [(show aa.eval (.tmp 31) = .agg #[.int .i64 Wd, .int .i64 Ht] from (hd 12 rfl)), (show aa.eval (.tmp 32) = .slice A ms.length k from (hd 13 rfl))]; exact group_got Wd Ht A k ms _ (HRM.out.to (bel_then HB.out hb)) (by omega) HS.out))) | 15, _, _ => exact aG (hd 11 rfl) ⟨_, op_not rfl (hd 14 rfl), rfl⟩ | 16, _, _ => exact aL ⟨_, op_pickF rfl (hd 11 rfl) (hd 15 rfl), rfl⟩ | qi + 17, h, _ => omega
 intro vs X3 hb hv hal hne; replace HB := Hd.mk (bel_then HB.out hb); replace HE := Hd.mk (HE.out.to hb); have e35 : vs 35 = .bool false := hv 16 (by decide) rfl; simp only [PA, e35]; clear hv hal hne hb e35; go_upto_region 4 with fail
 refine wp_region_vd 0 [] [] [] 63 [.int .i64 0, .int .i64 0] [] (by rfl) alloc_Z ?_ ?_
 ·intro qi qh qA aa wx hb hs hd
  match qi, qh, qA with
  | qi + 0, h, _ => omega
 intro vs X4 hb hv hal hne; replace HB := Hd.mk (bel_then HB.out hb); replace HE := Hd.mk (HE.out.to hb); simp only [PA]; clear hv hal hne hb; go_upto_region 5 with fail
 refine wp_region_vd 4 [36, 37, 38, 39] [0, 1, 2, 3] [] 63 [.int .i64 0, .int .i64 0] [qI Wd, qI Ht, qI ((N : Nat) : Int), qI 0] (by rfl) alloc_Z ?_ ?_
 ·intro qi qh qA aa wx hb hs hd
  match qi, qh, qA with
  | 0, _, _ => exact aL (op_mv rfl (hs 0 rfl)) | 1, _, _ => exact aL (op_mv rfl (hs 1 rfl)) | 2, _, _ => exact aL (pure_b (int_eq HNN.out) (⟨_, op_mul (by unfold Fit; rw [HNN.out]; omega) rfl (hd 0 rfl) (hd 1 rfl), rfl⟩)) | 3, _, _ => exact aL (op_mv rfl rfl) | qi + 4, h, _ => omega
 intro vs X5 hb hv hal hne; replace HB := Hd.mk (bel_then HB.out hb); replace HE := Hd.mk (HE.out.to hb); have e38 : vs 38 = .int .i64 (((N : Nat) : Int)) := hv 2 (by decide) rfl; have e39 : vs 39 = .int .i64 0 := hv 3 (by decide) rfl; simp only [PA, e38, e39]; clear hv hal hne hb e38 e39; go_wp2_with fail
 go_loopw [11, 39] (fun s11 s39 wr => ∃ i : Nat, i ≤ N ∧ s39 = .int .i64 i ∧ s11 = .int .i64 (pw i : Nat) ∧ Env wr [⟨g10, 63, [.int .i64 Wd, .int .i64 Ht]⟩] ∧ Below w.heap.size w wr) (fun _ s39 _ => N - (intOf s39).toNat)
 case atStart => exact ⟨0, Nat.zero_le _, rfl, by rw [HP0.out]; rfl, HE.out, HB.out⟩
 case round =>
  obtain ⟨i, hi, rfl, rfl, he, hb⟩ := hrel; clear HB HE; have HB := Hd.mk hb; have HE : Hd (Env wr [⟨g10, 63, [.int .i64 Wd, .int .i64 Ht]⟩]) := ⟨he⟩; clear he hb; by_cases hj : i < N
  ·have hp1 := HPL.out (i + 1) hj; have hp2 := HPS.out i; have HPQ : Hd (((pw i : Nat) : Int) * ((K : Nat) : Int) = ((pw (i + 1) : Nat) : Int)) := ⟨by rw [hp2]; exact (Int.natCast_mul _ _).symm⟩; clear hp2; go_upto_region 7 with fail
   refine wp_region_vd 3 [41, 42, 43] [0, 1, 2] [] 63 [.int .i64 0, .int .i64 0] [qI ((pw i : Nat) : Int), qI ((K : Nat) : Int), qI ((pw (i + 1) : Nat) : Int)] (by rfl) alloc_Z ?_ ?_
   ·intro qi qh qA aa wx hb hs hd
    match qi, qh, qA with
    | 0, _, _ => exact aL (op_mv rfl (hs 11 rfl)) | 1, _, _ => exact aL (op_mv rfl (hs 2 rfl)) | 2, _, _ => exact aL (pure_b (int_eq HPQ.out) (⟨_, op_mul (by unfold Fit; rw [HPQ.out]; omega) rfl (hd 0 rfl) (hd 1 rfl), rfl⟩)) | qi + 3, h, _ => omega
   intro vs X1 hb hv hal hne; replace HB := Hd.mk (bel_then HB.out hb); replace HE := Hd.mk (HE.out.to hb); have e43 : vs 43 = .int .i64 (((pw (i + 1) : Nat) : Int)) := hv 2 (by decide) rfl; simp only [PA, e43]; clear hv hal hne hb e43; go_upto_region 8 with fail
   refine wp_region_vd 2 [44, 45] [0, 1] [] 63 [.int .i64 0, .int .i64 0] [qI ((pw (i + 1) : Nat) : Int), qF] (by rfl) alloc_Z ?_ ?_
   ·intro qi qh qA aa wx hb hs hd
    match qi, qh, qA with
    | 0, _, _ => exact aL (op_mv rfl (hs 11 rfl)) | 1, _, _ => exact aL (pure_b (bool_eq (decide_eq_false (by omega))) (⟨_, op_gtrI rfl (hd 0 rfl) rfl, rfl⟩)) | qi + 2, h, _ => omega
   intro vs X2 hb hv hal hne; replace HB := Hd.mk (bel_then HB.out hb); replace HE := Hd.mk (HE.out.to hb); have e45 : vs 45 = .bool false := hv 1 (by decide) rfl; simp only [PA, e45]; clear hv hal hne hb e45; go_wp2_with fail
   go_roundw
   case rel => exact ⟨i + 1, by omega, by go_num, rfl, HE.out, HB.out⟩
   case measure => simp [intOf]; omega
  have e1 : i = N := by omega
  have HPN : Hd (pw i = M) := ⟨by rw [e1]; exact HPM.out⟩; have epn := HPN.out; clear e1; rw [epn]; clear epn; go_upto_region 12 with fail
  refine wp_region_vd 2 [47, 48] [0, 1] [] 63 [.int .i64 0, .int .i64 0] [qI ((M : Nat) : Int), qI 0] (by rfl) alloc_Z ?_ ?_
  ·intro qi qh qA aa wx hb hs hd
   match qi, qh, qA with
   | 0, _, _ => exact aL (op_mv rfl (hs 11 rfl)) | 1, _, _ => exact aL (op_mv rfl rfl) | qi + 2, h, _ => omega
  intro vs X1 hb hv hal hne; replace HB := Hd.mk (bel_then HB.out hb); replace HE := Hd.mk (HE.out.to hb); have e47 : vs 47 = .int .i64 (((M : Nat) : Int)) := hv 0 (by decide) rfl; have e48 : vs 48 = .int .i64 0 := hv 1 (by decide) rfl; simp only [PA, e47, e48]; clear hv hal hne hb e47 e48; have HO : Hd (OwnT (g10 + 1) X1 (.slice none 0 0) Wd Ht []) := ⟨World.ownsRow_nil _ _ _ _⟩; go_wp2_with fail
  go_loopw [12, 48] (fun s12 s48 wr => ∃ (n : Nat) (ts : List Sl), n ≤ M ∧ s48 = .int .i64 n ∧ ts.length ≤ n ∧ ts.map Sl.xs = ((List.range n).map (dgs K N)).filter (repB Wd Ht ms) ∧ OkT wr ts ∧ OwnT (g10 + 1) wr s12 Wd Ht ts ∧ Env wr [⟨g10, 63, [.int .i64 Wd, .int .i64 Ht]⟩] ∧ Below w.heap.size w wr) (fun _ s48 _ => M - (intOf s48).toNat)
  case atStart => exact ⟨0, [], Nat.zero_le _, rfl, Nat.zero_le _, rfl, (fun s hs => by cases hs), HO.out, HE.out, HB.out⟩
  case round =>
   obtain ⟨n, ts, hn, rfl, htl, hmp, hok, ho, he, hb⟩ := hrel; clear HB HE HO; have HB := Hd.mk hb; have HO := Hd.mk ho; have HM := Hd.mk hok; have HMP := Hd.mk hmp; have HE : Hd (Env wr [⟨g10, 63, [.int .i64 Wd, .int .i64 Ht]⟩]) := ⟨he⟩; clear ho he hb hok hmp; by_cases hj2 : n < M
   ·skip
    go_upto_region 14 with fail
    refine wp_region_vd 1 [50] [0] [] 63 [.int .i64 0, .int .i64 0] [qI ((n : Nat) : Int)] (by rfl) alloc_Z ?_ ?_
    ·intro qi qh qA aa wx hb hs hd
     match qi, qh, qA with
     | 0, _, _ => exact aL (op_mv rfl (hs 48 rfl)) | qi + 1, h, _ => omega
    intro vs X1 hb hv hal hne; replace HB := Hd.mk (bel_then HB.out hb); replace HE := Hd.mk (HE.out.to hb); replace HM := Hd.mk (HM.out.to hb); have HOL := Hd.mk HO.out.lt; replace HO := Hd.mk (HO.out.to hb); have e50 : vs 50 = .int .i64 (((n : Nat) : Int)) := hv 0 (by decide) rfl; simp only [PA, e50]; clear hv hal hne hb e50 HOL; have HMB : Hd (OkB X1 X1.heap.size ts) := ⟨HM.out.bound⟩; replace HM := HMB; clear HMB; have HOLW : Hd (∀ k, u12.ownBlock = some k → k < X1.heap.size) := ⟨fun k hk => (HO.out.lt k hk).2⟩; go_upto_region 15 with fail
    refine wp_region_vd 8 [51, 52, 53, 54, 55, 56, 57, 14] [0, 1, 2, 3, 4, 6] [7] 43 [.int .i64 0, .int .i64 0, .slice none 0 0] [qI Wd, qI Ht, qI Wd, qI Ht, qI ((N : Nat) : Int), isF X1.heap.size (List.replicate N (0 : Int)), isFS X1.heap.size Wd Ht (List.replicate N (0 : Int)), SP.any] (by rfl) alloc_T ?_ ?_
    ·intro qi qh qA aa wx hb hs hd
     match qi, qh, qA with
     | 0, _, _ => exact aL (op_mv rfl (hs 0 rfl)) | 1, _, _ => exact aL (op_mv rfl (hs 1 rfl)) | 2, _, _ => exact aL (op_mv rfl (hs 0 rfl)) | 3, _, _ => exact aL (op_mv rfl (hs 1 rfl)) | 4, _, _ => exact aL (pure_b (int_eq HNN.out) (⟨_, op_mul (by unfold Fit; rw [HNN.out]; omega) rfl (hd 2 rfl) (hd 3 rfl), rfl⟩)) | 5, _, _ => exact aL (op_make (by omega) rfl rfl (hd 4 rfl) (hd 4 rfl) X1.heap.size hb.size) | 6, _, _ => exact aL (op_buTF rfl (hd 0 rfl) (hd 1 rfl) (hd 5 rfl)) | 7, _, h => cases h | qi + 8, h, _ => omega
    intro vs X2 hb hv hal hne; have HL0 := Hd.mk (HE.out.lt); have HBW := HB; replace HB := Hd.mk (bel_then HB.out hb); replace HE := Hd.mk (HE.out.to hb); replace HM := Hd.mk (HM.out.to hb); have HOL := Hd.mk HO.out.lt; replace HO := Hd.mk (HO.out.to hb); have t57 : (isFS X1.heap.size Wd Ht (List.replicate N (0 : Int))).p (vs 57) X2 := hv 6 (by decide) rfl; obtain ⟨g57, k57, rest57, e57, l57, m57, n57, b57⟩ := t57; replace HE : Hd (Env X2 [⟨g10, 63, [.int .i64 Wd, .int .i64 Ht]⟩, ⟨g57, 3, ints (List.replicate N (0 : Int)) ++ rest57⟩]) := ⟨Env.addne (e := ⟨g57, 3, ints (List.replicate N (0 : Int)) ++ rest57⟩) HE.out b57 (fun e' he => Nat.ne_of_lt (Nat.lt_of_lt_of_le (HL0.out e' he) l57))⟩; have HLE57 := Hd.mk l57; have G57 : Hd (w.heap.size ≤ g57) := ⟨Nat.le_trans HBW.out.size l57⟩; obtain ⟨g14, e14, l14, b14⟩ : ∃ g, vs 14 = .pointer (some ⟨g, 0, none⟩) ∧ _ := hal 7 rfl; replace HE : Hd (Env X2 [⟨g10, 63, [.int .i64 Wd, .int .i64 Ht]⟩, ⟨g57, 3, ints (List.replicate N (0 : Int)) ++ rest57⟩, ⟨g14, 43, [.int .i64 0, .int .i64 0, .slice none 0 0]⟩]) := ⟨Env.addne (e := ⟨g14, 43, [.int .i64 0, .int .i64 0, .slice none 0 0]⟩) HE.out b14 (fun e' he => (List.mem_append.1 (show e' ∈ _ ++ [_] from he)).elim (fun he => Nat.ne_of_lt (Nat.lt_of_lt_of_le (HL0.out e' he) l14)) (fun he => by rw [List.mem_singleton.1 he]; exact blk_ne b57 b14 (by decide)))⟩; have HOG14 : Hd (∀ k, u12.ownBlock = some k → k < g14) := ⟨fun k hk => Nat.lt_of_lt_of_le (HOL.out k hk).2 l14⟩; have G14 : Hd (w.heap.size ≤ g14) := ⟨Nat.le_trans HBW.out.size l14⟩; simp only [PA, e57, e14]; clear hv hal hne hb HL0 HBW e57 e14 l57 b57 l14 b14 HOL; refine wpList_st rfl rfl rfl rfl rfl (sto_T (HE.out.get 2 rfl)) ?_; have HE' : Env (putL X2 g14 0 [.int .i64 Wd, .int .i64 Ht, .slice (some ⟨g57, 0, none⟩) ((List.replicate N (0 : Int)).length) k57]) [⟨g10, 63, [.int .i64 Wd, .int .i64 Ht]⟩, ⟨g57, 3, ints (List.replicate N (0 : Int)) ++ rest57⟩, ⟨g14, 43, [.int .i64 Wd, .int .i64 Ht, .slice (some ⟨g57, 0, none⟩) ((List.replicate N (0 : Int)).length) k57]⟩] := HE.out.putF 2 rfl rfl; have HB' := putL_below (show w.heap.size ≤ g14 from G14.out) [.int .i64 Wd, .int .i64 Ht, .slice (some ⟨g57, 0, none⟩) ((List.replicate N (0 : Int)).length) k57] _ 0 HB.out; replace HM := Hd.mk (HM.out.putB (vs := [.int .i64 Wd, .int .i64 Ht, .slice (some ⟨g57, 0, none⟩) ((List.replicate N (0 : Int)).length) k57]) (o := 0) (HE.out.get 2 rfl)); replace HO := Hd.mk (HO.out.put (vs := [.int .i64 Wd, .int .i64 Ht, .slice (some ⟨g57, 0, none⟩) ((List.replicate N (0 : Int)).length) k57]) (o := 0) HOG14.out); generalize putL X2 g14 0 [.int .i64 Wd, .int .i64 Ht, .slice (some ⟨g57, 0, none⟩) ((List.replicate N (0 : Int)).length) k57] = X3 at *; replace HE := Hd.mk HE'; replace HB := Hd.mk HB'; clear HE' HB'; have HOG57 : Hd (∀ k, u12.ownBlock = some k → k < g57) := ⟨fun k hk => Nat.lt_of_lt_of_le (HOLW.out k hk) HLE57.out⟩; replace HM := Hd.mk (HM.out.more HLE57.out); clear HLE57 HOLW; have HE1 : Env X3 [⟨g10, 63, [.int .i64 Wd, .int .i64 Ht]⟩, ⟨g57, 3, ints (List.replicate N (0 : Int)) ++ rest57⟩, ⟨g14, 43, [.int .i64 Wd, .int .i64 Ht, .slice (some ⟨g57, 0, none⟩) N k57]⟩] := by have h := HE.out; rw [List.length_replicate] at h; exact h
    replace HE := Hd.mk HE1; clear HE1; go_upto_region 16 with fail
    refine wp_region_vd 4 [58, 59, 60, 61] [0, 1, 2, 3] [] 63 [.int .i64 0, .int .i64 0] [qI Wd, qI Ht, qI ((N : Nat) : Int), qI ((((N : Nat) : Int)) - 1)] (by rfl) alloc_Z ?_ ?_
    ·intro qi qh qA aa wx hb hs hd
     match qi, qh, qA with
     | 0, _, _ => exact aL (op_mv rfl (hs 0 rfl)) | 1, _, _ => exact aL (op_mv rfl (hs 1 rfl)) | 2, _, _ => exact aL (pure_b (int_eq HNN.out) (⟨_, op_mul (by unfold Fit; rw [HNN.out]; omega) rfl (hd 0 rfl) (hd 1 rfl), rfl⟩)) | 3, _, _ => exact aL ⟨_, op_sub (by unfold Fit; omega) rfl (hd 2 rfl) rfl, rfl⟩ | qi + 4, h, _ => omega
    intro vs X4 hb hv hal hne; replace HB := Hd.mk (bel_then HB.out hb); replace HE := Hd.mk (HE.out.to hb); replace HM := Hd.mk (HM.out.to hb); have HOL := Hd.mk HO.out.lt; replace HO := Hd.mk (HO.out.to hb); have e61 : vs 61 = .int .i64 ((((N : Nat) : Int)) - 1) := hv 3 (by decide) rfl; simp only [PA, e61]; clear hv hal hne hb e61 HOL; have HE1 : Env X4 [⟨g10, 63, [.int .i64 Wd, .int .i64 Ht]⟩, ⟨g57, 3, ints (List.replicate N (0 : Int) ++ []) ++ rest57⟩, ⟨g14, 43, [.int .i64 Wd, .int .i64 Ht, .slice (some ⟨g57, 0, none⟩) N k57]⟩] := by have h := HE.out; rw [← List.append_nil (List.replicate N (0 : Int))] at h; exact h
    replace HE := Hd.mk HE1; clear HE1; go_wp2_with fail
    go_loopw [13, 15] (fun s13 s15 wr => ∃ (i r : Nat) (tl : List Int), i ≤ N ∧ r ≤ n ∧ s15 = .int .i64 ((i : Int) - 1) ∧ s13 = .int .i64 r ∧ tl.length + i = N ∧ dgs K N n = dgs K i r ++ tl ∧ OkB wr g57 ts ∧ OwnT (g10 + 1) wr u12 Wd Ht ts ∧ Env wr [⟨g10, 63, [.int .i64 Wd, .int .i64 Ht]⟩, ⟨g57, 3, ints (List.replicate i (0 : Int) ++ tl) ++ rest57⟩, ⟨g14, 43, [.int .i64 Wd, .int .i64 Ht, .slice (some ⟨g57, 0, none⟩) N k57]⟩] ∧ Below w.heap.size w wr) (fun _ s15 _ => (intOf s15 + 1).toNat)
    case atStart => exact ⟨N, n, [], Nat.le_refl _, Nat.le_refl _, rfl, rfl, by simp, by rw [List.append_nil], HM.out, HO.out, HE.out, HB.out⟩
    case round =>
     obtain ⟨i, r, tl, hiN, hrn, rfl, rfl, htn, hdg, hok, ho, he, hb⟩ := hrel; clear HB HE HO HM; have HB := Hd.mk hb; have HO := Hd.mk ho; have HM := Hd.mk hok; have HDG := Hd.mk hdg; have HTN := Hd.mk htn; have HE : Hd (Env wr [⟨g10, 63, [.int .i64 Wd, .int .i64 Ht]⟩, ⟨g57, 3, ints (List.replicate i (0 : Int) ++ tl) ++ rest57⟩, ⟨g14, 43, [.int .i64 Wd, .int .i64 Ht, .slice (some ⟨g57, 0, none⟩) N k57]⟩]) := ⟨he⟩; clear ho he hb hok hdg htn; by_cases hi0 : 0 < i
     ·obtain ⟨i, rfl⟩ : ∃ z, i = z + 1 := ⟨i - 1, by omega⟩; have ei : (((i + 1 : Nat) : Int) - 1) = (i : Int) := by omega
      rw [ei]; clear ei; have hcl : (List.replicate (i + 1) (0 : Int) ++ tl).length = N := by rw [List.length_append, List.length_replicate]; have := HTN.out; omega
      go_upto_region 19 with fail
      refine wp_region_vs 7 [66, 67, 68, 69, 70, 71, 72] [0, 2, 3, 4] [] 63 [.int .i64 0, .int .i64 0] [isV (.pointer (some ⟨g14, 2, none⟩)), isV (.slice (some ⟨g57, 0, none⟩) N k57), qI ((i : Nat) : Int), qI ((r : Nat) : Int), qI ((K : Nat) : Int), qI ((r % K : Nat) : Int), isV (.pointer (some (Addr.add (⟨g57, 0, none⟩) (((i : Nat) : Int)).toNat)))] (by kernel_rfl) (by kernel_rfl) (by kernel_rfl) (by rfl) alloc_Z (fun d v c a w h => by cases d <;> exact h) ?_ ?_
      ·intro qi qh qA aa wx hb hs hd
       match qi, qh, qA with
       | 0, _, _ => exact ⟨_, op_faT2 rfl (hs 14 rfl), rfl⟩ | 1, _, _ => exact op_ldS rfl rfl (hd 0 rfl) ((HE.out.to hb).cell 2 2 rfl rfl) | 2, _, _ => exact op_mv rfl (hs 15 rfl) | 3, _, _ => exact op_mv rfl (hs 13 rfl) | 4, _, _ => exact op_mv rfl (hs 2 rfl) | 5, _, _ => exact wp_b (int_eq (tmod_nat _ _)) (op_run rfl (op_rem (by omega) (by unfold Fit; omega) (by omega) rfl (hd 3 rfl) (hd 4 rfl) _) rfl) | 6, _, _ => exact op_run rfl (op_idx (by omega) (by omega) rfl (hd 1 rfl) (hd 2 rfl) _) rfl | qi + 7, h, _ => omega
      intro vs X1 hb hv hal hne; replace HB := Hd.mk (bel_then HB.out hb); replace HE := Hd.mk (HE.out.to hb); replace HM := Hd.mk (HM.out.to hb); have HOL := Hd.mk HO.out.lt; replace HO := Hd.mk (HO.out.to hb); have e72 : vs 72 = .pointer (some (Addr.add (⟨g57, 0, none⟩) (((i : Nat) : Int)).toNat)) := hv 6 (by decide) rfl; have e71 : vs 71 = .int .i64 (((r % K : Nat) : Int)) := hv 5 (by decide) rfl; simp only [PA, e72, e71]; clear hv hal hne hb e72 e71 HOL; refine wpList_st rfl rfl rfl rfl rfl (sto_at (HE.out.get 1 rfl) (by rw [hcl]; omega)) ?_; have HE' : Env (putL X1 g57 (((i : Nat) : Int)).toNat [.int .i64 (((r % K : Nat) : Int))]) [⟨g10, 63, [.int .i64 Wd, .int .i64 Ht]⟩, ⟨g57, 3, ints (((List.replicate (i + 1) (0 : Int) ++ tl)).set (((i : Nat) : Int)).toNat (((r % K : Nat) : Int))) ++ rest57⟩, ⟨g14, 43, [.int .i64 Wd, .int .i64 Ht, .slice (some ⟨g57, 0, none⟩) N k57]⟩] := HE.out.putI 1 rfl (by rw [hcl]; omega); have HB' := putL_below (show w.heap.size ≤ g57 from G57.out) [.int .i64 (((r % K : Nat) : Int))] _ ((((i : Nat) : Int)).toNat) HB.out; replace HM := Hd.mk (HM.out.putB (vs := [.int .i64 (((r % K : Nat) : Int))]) (o := (((i : Nat) : Int)).toNat) (HE.out.get 1 rfl)); replace HO := Hd.mk (HO.out.put (vs := [.int .i64 (((r % K : Nat) : Int))]) (o := (((i : Nat) : Int)).toNat) HOG57.out); generalize putL X1 g57 (((i : Nat) : Int)).toNat [.int .i64 (((r % K : Nat) : Int))] = X2 at *; replace HE := Hd.mk HE'; replace HB := Hd.mk HB'; clear HE' HB'; go_upto_region 20 with fail
      refine wp_region_vd 3 [73, 74, 75] [0, 1] [] 63 [.int .i64 0, .int .i64 0] [qI ((r : Nat) : Int), qI ((K : Nat) : Int), qI ((r / K : Nat) : Int)] (by rfl) alloc_Z ?_ ?_
      ·intro qi qh qA aa wx hb hs hd
       match qi, qh, qA with
       | 0, _, _ => exact aL (op_mv rfl (hs 13 rfl)) | 1, _, _ => exact aL (op_mv rfl (hs 2 rfl)) | 2, _, _ => exact aL (wp_b (int_eq (tdiv_nat _ _)) (op_run rfl (op_quo (by omega) (by unfold Fit; omega) (by omega) rfl (hd 0 rfl) (hd 1 rfl) _) rfl)) | qi + 3, h, _ => omega
      intro vs X3 hb hv hal hne; replace HB := Hd.mk (bel_then HB.out hb); replace HE := Hd.mk (HE.out.to hb); replace HM := Hd.mk (HM.out.to hb); have HOL := Hd.mk HO.out.lt; replace HO := Hd.mk (HO.out.to hb); have e75 : vs 75 = .int .i64 (((r / K : Nat) : Int)) := hv 2 (by decide) rfl; simp only [PA, e75]; clear hv hal hne hb e75 HOL; go_upto_region 18 with fail
      refine wp_region_vd 2 [64, 65] [0, 1] [] 63 [.int .i64 0, .int .i64 0] [qI ((i : Nat) : Int), qI ((((i : Nat) : Int)) - 1)] (by rfl) alloc_Z ?_ ?_
      ·intro qi qh qA aa wx hb hs hd
       match qi, qh, qA with
       | 0, _, _ => exact aL (op_mv rfl (hs 15 rfl)) | 1, _, _ => exact aL ⟨_, op_sub (by unfold Fit; omega) rfl (hd 0 rfl) rfl, rfl⟩ | qi + 2, h, _ => omega
      intro vs X4 hb hv hal hne; replace HB := Hd.mk (bel_then HB.out hb); replace HE := Hd.mk (HE.out.to hb); replace HM := Hd.mk (HM.out.to hb); have HOL := Hd.mk HO.out.lt; replace HO := Hd.mk (HO.out.to hb); have e65 : vs 65 = .int .i64 ((((i : Nat) : Int)) - 1) := hv 1 (by decide) rfl; simp only [PA, e65]; clear hv hal hne hb e65 HOL; go_wp2_with fail
      go_roundw
      case rel => exact ⟨i, r / K, ((r % K : Nat) : Int) :: tl, by omega, Nat.le_trans (Nat.div_le_self _ _) hrn, by go_num, rfl, (by have := HTN.out; rw [List.length_cons]; omega), (by rw [HDG.out, dgs, List.append_assoc]; rfl), HM.out, HO.out, (by have h := HE.out; simp only [Int.toNat_natCast, set_rep] at h; exact h), HB.out⟩
      case measure => (simp [intOf]; try omega)
     obtain rfl : i = 0 := by omega
     have HTX : Hd (dgs K N n = tl) := ⟨by rw [HDG.out]; rfl⟩; have HE1 : Env wr [⟨g10, 63, [.int .i64 Wd, .int .i64 Ht]⟩, ⟨g57, 3, ints (tl) ++ rest57⟩, ⟨g14, 43, [.int .i64 Wd, .int .i64 Ht, .slice (some ⟨g57, 0, none⟩) N k57]⟩] := by have h := HE.out; rw [List.replicate_zero, List.nil_append] at h; exact h
     replace HE := Hd.mk HE1; have htlN : tl.length = N := by have := HTN.out; omega
     have HTL : Hd (tl.length = N) := ⟨htlN⟩; have HCT := Hd.mk (dgs_col (K := K) (by omega) N n); have HMO := HM.out.ok; replace HM := Hd.mk HMO; clear HE1 htlN HMO
     have HPR : Hd (Preds 31 #[.pointer (some ⟨g10, 0, none⟩), .pointer (some ⟨g14, 0, none⟩)] ms (fun m => decide (cmpL (apM Wd Ht m tl) tl < 0)) wr) := ⟨fun m hm wx hx => by
      have h2 : Blk wx g14 43 [.int .i64 Wd, .int .i64 Ht, .slice (some ⟨g57, 0, none⟩) tl.length k57] := by rw [HTL.out]; exact (HE.out.get 2 rfl).to hx
      exact List1_got Wd Ht m g10 g14 ⟨g57, 0, none⟩ k57 tl wx ((HE.out.get 0 rfl).to hx) h2 (((HE.out.get 1 rfl).to hx).ri) (HAM.out m hm) (by rw [HTL.out]; exact HNN.out.symm) (by rw [HTL.out]; exact HN64.out)⟩
     by_cases hrb : ms.any (fun m => decide (cmpL (apM Wd Ht m tl) tl < 0)) = true
     ·have HRB := Hd.mk hrb; have HLN : Hd (repB Wd Ht ms (dgs K N n) = false) := ⟨by rw [HTX.out]; unfold repB; rw [hrb]; rfl⟩; clear hrb; go_upto_region 21 with fail
      refine wp_region_vd 4 [76, 77, 78, 79] [0, 3] [] 63 [.int .i64 0, .int .i64 0] [isV (.slice A ms.length k), isV (.func (.func 31) #[] #[.pointer (some ⟨g10, 0, none⟩), .pointer (some ⟨g14, 0, none⟩)]), qT, qF] (by rfl) alloc_Z ?_ ?_
      ·intro qi qh qA aa wx hb hs hd
       match qi, qh, qA with
       | 0, _, _ => exact aL (op_mv rfl (hs 3 rfl)) | 1, _, _ => exact aL (op_run rfl (op_mkF2 rfl (hs 10 rfl) (hs 14 rfl) _) rfl) | 2, _, _ => exact aL (op_call2 rfl rfl Tryz.call30 (by rw [show aa.eval (.tmp 76) = .slice A ms.length k from hd 0 rfl, show aa.eval (.tmp 77) = .func (.func 31) #[] #[.pointer (some ⟨g10, 0, none⟩), .pointer (some ⟨g14, 0, none⟩)] from hd 1 rfl]; have h := contM_got 31 #[.pointer (some ⟨g10, 0, none⟩), .pointer (some ⟨g14, 0, none⟩)] (fun m => decide (cmpL (apM Wd Ht m tl) tl < 0)) A k ms wx Tryz.call31 (HRM.out.to (bel_then HB.out hb)) (by omega) (fun m hm wy hy => HPR.out m hm wy (below_then hb hb.size hy)); rw [HRB.out] at h; exact h)) | 3, _, _ => exact aL ⟨_, op_not rfl (hd 2 rfl), rfl⟩ | qi + 4, h, _ => omega
      intro vs X1 hb hv hal hne; replace HB := Hd.mk (bel_then HB.out hb); replace HE := Hd.mk (HE.out.to hb); replace HM := Hd.mk (HM.out.to hb); have HOL := Hd.mk HO.out.lt; replace HO := Hd.mk (HO.out.to hb); have e79 : vs 79 = .bool false := hv 3 (by decide) rfl; simp only [PA, e79]; clear hv hal hne hb e79 HOL; go_wp2_with fail
      go_roundw
      case rel => exact ⟨n + 1, ts, by omega, by go_num, by omega, (by rw [list_no HLN.out]; exact HMP.out), HM.out, HO.out, Env.front (L := [⟨g10, 63, [.int .i64 Wd, .int .i64 Ht]⟩]) HE.out, HB.out⟩
      case measure => simp [intOf]; omega
     have hrb' : ms.any (fun m => decide (cmpL (apM Wd Ht m tl) tl < 0)) = false := by simpa using hrb
     have HRB := Hd.mk hrb'; have HLN : Hd (repB Wd Ht ms (dgs K N n) = true) := ⟨by rw [HTX.out]; unfold repB; rw [hrb']; rfl⟩; clear hrb hrb'; go_upto_region 21 with fail
     refine wp_region_vd 4 [76, 77, 78, 79] [0, 3] [] 63 [.int .i64 0, .int .i64 0] [isV (.slice A ms.length k), isV (.func (.func 31) #[] #[.pointer (some ⟨g10, 0, none⟩), .pointer (some ⟨g14, 0, none⟩)]), qF, qT] (by rfl) alloc_Z ?_ ?_
     ·intro qi qh qA aa wx hb hs hd
      match qi, qh, qA with
      | 0, _, _ => exact aL (op_mv rfl (hs 3 rfl)) | 1, _, _ => exact aL (op_run rfl (op_mkF2 rfl (hs 10 rfl) (hs 14 rfl) _) rfl) | 2, _, _ => exact aL (op_call2 rfl rfl Tryz.call30 (by rw [show aa.eval (.tmp 76) = .slice A ms.length k from hd 0 rfl, show aa.eval (.tmp 77) = .func (.func 31) #[] #[.pointer (some ⟨g10, 0, none⟩), .pointer (some ⟨g14, 0, none⟩)] from hd 1 rfl]; have h := contM_got 31 #[.pointer (some ⟨g10, 0, none⟩), .pointer (some ⟨g14, 0, none⟩)] (fun m => decide (cmpL (apM Wd Ht m tl) tl < 0)) A k ms wx Tryz.call31 (HRM.out.to (bel_then HB.out hb)) (by omega) (fun m hm wy hy => HPR.out m hm wy (below_then hb hb.size hy)); rw [HRB.out] at h; exact h)) | 3, _, _ => exact aL ⟨_, op_not rfl (hd 2 rfl), rfl⟩ | qi + 4, h, _ => omega
     intro vs X1 hb hv hal hne; replace HB := Hd.mk (bel_then HB.out hb); replace HE := Hd.mk (HE.out.to hb); replace HM := Hd.mk (HM.out.to hb); have HOL := Hd.mk HO.out.lt; replace HO := Hd.mk (HO.out.to hb); have e79 : vs 79 = .bool true := hv 3 (by decide) rfl; simp only [PA, e79]; clear hv hal hne hb e79 HOL; have k26a := HE.out.cell 2 0 rfl rfl; have k26b := HE.out.cell 2 1 rfl rfl; have k26c := HE.out.cell 2 2 rfl rfl; have HXS := Nat.le_trans HB.out.size (Nat.le_refl _); obtain ⟨i0, hi0', hz0, hz1, hz2⟩ := info_parts Tryz.info_stamp; have hg0 := (HE.out.get 0 rfl).lt; go_wp2_with (first | (at_builtin; refine wpList_append_own _ rfl (.tmp 80) (.tmp 82) 31 rfl (g10 + 1) 43 i0 (.agg #[.int .i64 0, .int .i64 0, .slice none 0 0]) 3 40 Tryz.underlying31 hi0' hz0 hz1 hz2 rfl (by decide) u12 ts.length (ts.flatMap (encT Wd Ht)) rfl (HO.out.to (below_alloc (Below.refl _ _) _)) ⟨X1.heap.size, 0, none⟩ 1 1 [.int .i64 Wd, .int .i64 Ht, .slice (some ⟨g57, 0, none⟩) N k57] rfl rfl ?c1 ?c2 ?c3 ?c4 ?c5 ?_) | fail)
     case c1 =>
      intro z u hz; rcases z with _ | _ | _ | z <;> simp at hz <;> subst hz <;> simp [Addr.add]
     case c2 =>
      intro u hu; simp at hu; rcases hu with rfl | rfl | rfl <;> rfl
     case c3 => unfold maxLen; omega
     case c4 => omega
     case c5 => simp; omega
     intro v1 w1 hown1 hg1 _; have HB1 := (below_alloc HB.out _).grown hg1 (by simp; omega) (fun z hz => Nat.le_trans (Nat.le_trans G10.out (Nat.le_succ _)) (HO.out.lt z hz).1)
     have HE1 := (Env.grownBy_ (L := [⟨g10, 63, [.int .i64 Wd, .int .i64 Ht]⟩]) (Env.front (L := [⟨g10, 63, [.int .i64 Wd, .int .i64 Ht]⟩]) (HE.out.alloc_ _)) hg1 (fun e he hz => by
      have h1 := HO.out.lt e.g hz.symm; rw [List.mem_singleton.1 he] at h1
      exact absurd h1.1 (Nat.not_succ_le_self _)))
     have HM0 : OkT (X1.alloc (.cells #[.int .i64 Wd, .int .i64 Ht, .slice (some ⟨g57, 0, none⟩) N k57] 43)) (ts ++ [(⟨some ⟨g57, 0, none⟩, k57, tl⟩ : Sl)]) := fun s hs => (List.mem_append.1 hs).elim (fun h => (HM.out s h).to (below_alloc (Below.refl X1.heap.size X1) _)) (fun h => by rw [List.mem_singleton.1 h]; exact ⟨(fs_cells (HE.out.get 1 rfl)).to (below_alloc (Below.refl _ _) _), by show tl.length ≤ _; rw [HTL.out]; omega⟩)
     have HM1 := OkT.grown_ HM0 hg1 (OwnT.blk (HO.out.to (below_alloc (Below.refl _ _) _)))
     have HO1 : OwnT (g10 + 1) w1 v1 Wd Ht (ts ++ [(⟨some ⟨g57, 0, none⟩, k57, tl⟩ : Sl)]) := by
      unfold OwnT; rw [List.flatMap_append, List.length_append, show [(⟨some ⟨g57, 0, none⟩, k57, tl⟩ : Sl)].flatMap (encT Wd Ht) = [.int .i64 Wd, .int .i64 Ht, .slice (some ⟨g57, 0, none⟩) N k57] from by simp [encT, HTL.out]]; exact hown1
     have HMP1 : (ts ++ [(⟨some ⟨g57, 0, none⟩, k57, tl⟩ : Sl)]).map Sl.xs = ((List.range (n + 1)).map (dgs K N)).filter (repB Wd Ht ms) := by
      rw [list_yes HLN.out, List.map_append, HMP.out, HTX.out]; rfl
     replace HB := Hd.mk HB1; replace HO := Hd.mk HO1; replace HE := Hd.mk HE1; replace HM := Hd.mk HM1; clear HB1 HO1 HE1 HM1 HM0 hown1 hg1; go_wp2_with fail
     go_roundw
     case rel => exact ⟨n + 1, _, by omega, by go_num, (by simp; omega), HMP1, HM.out, HO.out, HE.out, HB.out⟩
     case measure => simp [intOf]; omega
   have e1 : n = M := by omega
   have HMP1 : ts.map Sl.xs = listL Wd Ht ms K N := by rw [HMP.out, e1, ← HMK.out]; rfl
   have hne : ts ≠ [] := fun e => by
    rw [e] at HMP1; exact HNE.out HMP1.symm
   obtain ⟨gO, capO, restO, e2, hlo, hbk, _⟩ := HO.out.row hne; clear e1; subst e2; have HRES : Hd ((isTs w.heap.size Wd Ht (listL Wd Ht ms K N)).p (.slice (some ⟨gO, 0, none⟩) ts.length capO) wr) := ⟨⟨gO, capO, restO, ts, rfl, HMP1, Nat.le_trans (Nat.le_trans G10.out (Nat.le_succ _)) hlo, hbk, HM.out⟩⟩; clear hbk hlo HMP1; go_wp2_with fail
   refine bodyPost_ret (v := .tuple #[.slice (some ⟨gO, 0, none⟩) ts.length capO, .int .i64 0]) (by simp [results, Tryz.results7, go_sem]) rfl ?_; exact ⟨_, rfl, HB.out, _, _, rfl, HRES.out, rfl⟩
section
variable {lo lo' : Nat} {w : World} {v : Value} {A : Option Addr} {n k : Nat} {xs : List Int}
theorem own_lenI (h : OwnI lo w v xs) : ∃ A k, v = .slice A xs.length k := by
 rcases h.2 with ⟨rfl, hn⟩ | ⟨g', cap, cur, rfl, _⟩
 ·exact ⟨none, 0, by rw [hn]⟩
 exact ⟨_, cap, rfl⟩
end
theorem OwnS.lower {lo lo' : Nat} {w : World} {v : Value} {ms : List Mv} (h : lo ≤ lo') (ho : OwnS lo' w v ms) : OwnS lo w v ms := by
 refine ⟨ho.1, ?_⟩; rcases ho.2 with hn | ⟨g', cap, cur, rfl, hb, hgg, rest⟩
 ·exact .inl hn
 exact .inr ⟨g', cap, cur, rfl, by omega, hgg, rest⟩
set_option maxRecDepth 100000 in
set_option maxHeartbeats 1000000 in
theorem rGroup_sz (Wd Ht : Int) (hs : sizeB Wd Ht = false) (A : Option Addr) (k : Nat) (ms : List Mv) (w : World) :
  Calls Tryz.prog 8 #[.int .i64 Wd, .int .i64 Ht, .slice A ms.length k] w (Got w (isV (.bool false)).p) := by
 have HS := Hd.mk hs; clear hs; go_enter Tryz.func8, Tryz.ntmps8
 go_upto_region 1 with fail
 have HE : Hd (Env w []) := ⟨trivial⟩; have HB : Hd (Below w.heap.size w w) := ⟨Below.refl _ _⟩; refine wp_region_vd 18 [17, 18, 19, 20, 21, 22, 23, 24, 25, 26, 27, 28, 29, 30, 31, 32, 33, 34] [0, 1, 3, 4, 8, 9, 17] [] 63 [.int .i64 0, .int .i64 0] [qI Wd, qI Ht, qF, qT, qT, qU, qU, qU, qT, qT, qU, qU, qU, qU, qU, qU, qU, qT] (by rfl) alloc_Z ?_ ?_
 ·intro qi qh qA aa wx hb hs hd
  match qi, qh, qA with
  | 0, _, _ => exact aL (op_mv rfl (hs 0 rfl)) | 1, _, _ => exact aL (op_mv rfl (hs 1 rfl)) | 2, _, _ => exact aL (wp_b (bool_eq HS.out) (op_call2 rfl rfl Tryz.call34 (by rw [(show aa.eval (.tmp 17) = .int .i64 Wd from (hd 0 rfl)), (show aa.eval (.tmp 18) = .int .i64 Ht from (hd 1 rfl))]; exact rSize_got Wd Ht _))) | 3, _, _ => exact aL ⟨_, op_not rfl (hd 2 rfl), rfl⟩ | 4, _, _ => exact aL (op_mv rfl (hd 3 rfl)) | 5, _, _ => exact aS (hd 4 rfl) | 6, _, _ => exact aS (hd 4 rfl) | 7, _, _ => exact aS (hd 4 rfl) | 8, _, _ => exact aL ⟨_, op_pickT rfl (hd 4 rfl) rfl, rfl⟩ | 9, _, _ => exact aL (op_mv rfl (hd 8 rfl)) | 10, _, _ => exact aS (hd 9 rfl) | 11, _, _ => exact aS (hd 9 rfl) | 12, _, _ => exact aS (hd 9 rfl) | 13, _, _ => exact aS (hd 9 rfl) | 14, _, _ => exact aS (hd 9 rfl) | 15, _, _ => exact aS (hd 9 rfl) | 16, _, _ => exact aS (hd 9 rfl) | 17, _, _ => exact aL ⟨_, op_pickT rfl (hd 9 rfl) rfl, rfl⟩ | qi + 18, h, _ => omega
 intro vs X1 hb hv hal hne; replace HB := Hd.mk (bel_then HB.out hb); replace HE := Hd.mk (HE.out.to hb); have e34 : vs 34 = .bool true := hv 17 (by decide) rfl; simp only [PA, e34]; clear hv hal hne hb e34; go_upto_region 2 with fail
 refine wp_region_vd 0 [] [] [] 63 [.int .i64 0, .int .i64 0] [] (by rfl) alloc_Z ?_ ?_
 ·intro qi qh qA aa wx hb hs hd
  match qi, qh, qA with
  | qi + 0, h, _ => omega
 intro vs X2 hb hv hal hne; replace HB := Hd.mk (bel_then HB.out hb); replace HE := Hd.mk (HE.out.to hb); simp only [PA]; clear hv hal hne hb; go_wp2_with fail
 go_ret
 exact ⟨_, rfl, HB.out, rfl⟩
end Go.Proofs.YtddbmckbankmeaaGreat
