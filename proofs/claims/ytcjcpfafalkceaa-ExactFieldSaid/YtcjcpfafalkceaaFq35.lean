/- Part 35 of the texts behind this claim. -/
import Derived.Test.YtcjcpfafalkceaaFq24
import Derived.Test.YtcjcpfafalkceaaFq33
set_option linter.unusedVariables false
set_option linter.unusedSimpArgs false
namespace Go.Proofs.Ytcjcpfafalkceaa
open Go.RowKit
def vq (a b : Int) : RQ := ⟨⟨decide (a < 0), none, 0, dig a.natAbs⟩, ⟨decide (b < 0), none, 0, dig b.natAbs⟩⟩
theorem num_val (z : Int) (A : Option Addr) (c : Nat) : Raw.val ⟨decide (z < 0), A, c, dig z.natAbs⟩ = z := by
  unfold Raw.val
  rw [val_dig]
  by_cases h : z < 0
  · rw [if_pos (by simp [h])]; omega
  · rw [if_neg (by simp [h])]; omega
theorem vq_n (a b : Int) : (vq a b).n.val = a := num_val a none 0
theorem vq_d (a b : Int) : (vq a b).d.val = b := num_val b none 0
theorem vq_ok {a b : Int} (la : ln a.natAbs ≤ 256) (lb : ln b.natAbs ≤ 256) (hb : 0 < b) (hg : Int.gcd a b = 1) : (vq a b).ok = true := by
  have h1 : (vq a b).n.ok = true := raw_ok_num a none 0 la
  have h2 : (vq a b).d.ok = true := raw_ok_num b none 0 lb
  rw [Int.gcd_eq_natAbs_gcd_natAbs] at hg
  unfold RQ.ok
  rw [h1, h2, vq_n, vq_d, decide_eq_true hb, decide_eq_true hg]
  rfl
theorem num_raw {z : Int} {u v : Value} {w : World} (h : (zC z).p u v w) : ∃ A c, (rC ⟨decide (z < 0), A, c, dig z.natAbs⟩).p u v w := by
  obtain ⟨A, c, rfl, rfl, hn⟩ := h
  exact ⟨A, c, rfl, rfl, hn.1, dg_dig _, hn.2.1, hn.2.2⟩
theorem num_raws {a b : Int} {v : Value} {w : World} (h : (isL [zC a, zC b]).p v w) : ∃ A c A' c', (isL [rC ⟨decide (a < 0), A, c, dig a.natAbs⟩, rC ⟨decide (b < 0), A', c', dig b.natAbs⟩]).p v w := by
  obtain ⟨u, x, u', x', rfl, h1, h2⟩ := isL_two.1 h
  obtain ⟨A, c, k1⟩ := num_raw h1
  obtain ⟨A', c', k2⟩ := num_raw h2
  exact ⟨A, c, A', c', isL_two.2 ⟨_, _, _, _, rfl, k1, k2⟩⟩
theorem RatDiv_num (a b : Int) (g : RQ) (v1 v2 : Value) (w : World) (h1 : (isL [zC a, zC b]).p v1 w) (h2 : (isL [rC g.n, rC g.d]).p v2 w) :
    Calls Try.prog 53 #[v1, v2] w (Got w (isP (isL [zC (rdn (vq a b) g), zC (rdd (vq a b) g)]) (isV (.int .i64 (rde (vq a b) g)))).p) := by
  obtain ⟨A, c, A', c', k⟩ := num_raws h1
  have h := RatDiv_got ⟨⟨decide (a < 0), A, c, dig a.natAbs⟩, ⟨decide (b < 0), A', c', dig b.natAbs⟩⟩ g v1 v2 w k h2
  exact h
def rsn (f g : RQ) : Int := rqn f g (f.n.val * g.d.val + -g.n.val * f.d.val) (f.d.val * g.d.val)
def rsd (f g : RQ) : Int := rqd f g (f.n.val * g.d.val + -g.n.val * f.d.val) (f.d.val * g.d.val)
def rse (f g : RQ) : Int := rqe f g (f.n.val * g.d.val + -g.n.val * f.d.val) (f.d.val * g.d.val)
theorem RatSub_num (a b : Int) (g : RQ) (v1 v2 : Value) (w : World) (h1 : (isL [zC a, zC b]).p v1 w) (h2 : (isL [rC g.n, rC g.d]).p v2 w) :
    Calls Try.prog 55 #[v1, v2] w (Got w (isP (isL [zC (rsn (vq a b) g), zC (rsd (vq a b) g)]) (isV (.int .i64 (rse (vq a b) g)))).p) := by
  obtain ⟨A, c, A', c', k⟩ := num_raws h1
  have h := RatSub_got ⟨⟨decide (a < 0), A, c, dig a.natAbs⟩, ⟨decide (b < 0), A', c', dig b.natAbs⟩⟩ g v1 v2 w k h2
  exact h
theorem RatFloor_ok (f : RQ) (hf : f.ok = true) (v0 : Value) (w : World) (h0 : (isL [rC f.n, rC f.d]).p v0 w) : Calls Try.prog 56 #[v0] w (Got w (isP (isZ (f.n.val / f.d.val)) (isV (.int .i64 0))).p) := by
  have h := RatFloor_got f v0 w h0
  rw [show rfn f = f.n.val / f.d.val from if_pos hf, show rfe f = 0 from if_pos hf] at h
  exact h
theorem SameRat_cast (x y : Int) (f : RQ) (hf : f.ok = true) (hx : x = f.n.val) (hy : y = f.d.val) (v1 v2 : Value) (w : World) (h1 : (isL [zC x, zC y]).p v1 w) (h2 : (isL [rC f.n, rC f.d]).p v2 w) : Calls Try.prog 54 #[v1, v2] w (Got w (isV (.bool true)).p) := by
  subst hx hy
  exact SameRat_got _ _ v1 v2 w h1 (rz_two hf h2)
theorem rvalid_z (z : Int) (hl : ln z.natAbs ≤ 256) (v1 : Value) (w : World) (h1 : (isZ z).p v1 w) : Calls Try.prog 22 #[v1] w (Got w (isV (.bool true)).p) :=
  z1 (fun A1 c1 h1 => rvalid_num z A1 c1 _ h1 hl) (fun e w' h => same_got h) h1
def fmN (f g : RQ) : Int := f.n.val * g.n.val
def fmD (f g : RQ) : Int := f.d.val * g.d.val
def faN (f g : RQ) : Int := f.n.val * g.d.val + g.n.val * f.d.val
def pn (f g : RQ) : Int := rqn f g (fmN f g) (fmD f g)
def pd (f g : RQ) : Int := rqd f g (fmN f g) (fmD f g)
def pe (f g : RQ) : Int := rqe f g (fmN f g) (fmD f g)
def an (f g : RQ) : Int := rqn f g (faN f g) (fmD f g)
def ad_ (f g : RQ) : Int := rqd f g (faN f g) (fmD f g)
def ae (f g : RQ) : Int := rqe f g (faN f g) (fmD f g)
theorem fitb_lens {a b : Int} (h : fitb a b = true) : ln a.natAbs ≤ 256 ∧ ln b.natAbs ≤ 256 := by unfold fitb at h; simpa using h
theorem field_div (f g : RQ) (hf : f.ok = true) (hg : g.ok = true) (l1 : ln f.n.val.natAbs ≤ 256) (l2 : ln f.d.val.natAbs ≤ 256) :
    ∃ c : Nat, (c = 0 ∧ decide (pe f g = 0) = false) ∨
      (c = 1 ∧ decide (pe f g = 0) = true ∧ decide (rde (vq (pn f g) (pd f g)) g = 0) = true ∧ decide (rde (vq (pn f g) (pd f g)) g = 4) = false ∧ rdn (vq (pn f g) (pd f g)) g = f.n.val ∧ rdd (vq (pn f g) (pd f g)) g = f.d.val) ∨
      (c = 2 ∧ decide (pe f g = 0) = true ∧ decide (rde (vq (pn f g) (pd f g)) g = 0) = false ∧ decide (rde (vq (pn f g) (pd f g)) g = 4) = true ∧ decide (g.n.val = 0) = true) := by
  have hok : (f.ok && g.ok) = true := by rw [hf, hg]; rfl
  have hb := RQ.ok_pos hf
  have hd := RQ.ok_pos hg
  have hD : fmD f g ≠ 0 := Int.mul_ne_zero (by omega) (by omega)
  by_cases hfit : fitb (qn (fmN f g) (fmD f g)) (qd (fmN f g) (fmD f g)) = true
  · have e1 : pn f g = qn (fmN f g) (fmD f g) := by unfold pn rqn fitn; rw [if_pos hok, if_pos hfit]
    have e2 : pd f g = qd (fmN f g) (fmD f g) := by unfold pd rqd fitd; rw [if_pos hok, if_pos hfit]
    have e3 : pe f g = 0 := by unfold pe rqe fitc; rw [if_pos hok, if_pos hfit]
    obtain ⟨q1, q2⟩ := fitb_lens hfit
    have hv : (vq (pn f g) (pd f g)).ok = true := by rw [e1, e2]; exact vq_ok q1 q2 (qd_pos hD) (q_gcd hD)
    have hvg : ((vq (pn f g) (pd f g)).ok && g.ok) = true := by rw [hv, hg]; rfl
    by_cases h0 : g.n.val = 0
    · refine ⟨2, .inr (.inr ⟨rfl, decide_eq_true e3, ?_, ?_, decide_eq_true h0⟩)⟩
      all_goals
        unfold rde rdz
        rw [hvg, decide_eq_true h0]
        rfl
    · have hz : ¬ rdz (vq (pn f g) (pd f g)) g = true := by unfold rdz; rw [hvg, decide_eq_false h0]; simp
      obtain ⟨u1, u2⟩ := field_mul hb (RQ.ok_gcd hf) hd h0
      have u3 : qn ((vq (pn f g) (pd f g)).n.val * g.d.val) ((vq (pn f g) (pd f g)).d.val * g.n.val) = f.n.val := by rw [vq_n, vq_d, e1, e2]; exact u1
      have u4 : qd ((vq (pn f g) (pd f g)).n.val * g.d.val) ((vq (pn f g) (pd f g)).d.val * g.n.val) = f.d.val := by rw [vq_n, vq_d, e1, e2]; exact u2
      have hfb : fitb f.n.val f.d.val = true := by unfold fitb; rw [decide_eq_true l1, decide_eq_true l2]; rfl
      have r1 : rdn (vq (pn f g) (pd f g)) g = f.n.val := by unfold rdn rqn; rw [if_neg hz, if_pos hvg, u3, u4]; exact if_pos hfb
      have r2 : rdd (vq (pn f g) (pd f g)) g = f.d.val := by unfold rdd rqd; rw [if_neg hz, if_pos hvg, u3, u4]; exact if_pos hfb
      have r3 : rde (vq (pn f g) (pd f g)) g = 0 := by unfold rde rqe; rw [if_neg hz, if_pos hvg, u3, u4]; exact if_pos hfb
      exact ⟨1, .inr (.inl ⟨rfl, decide_eq_true e3, decide_eq_true r3, decide_eq_false (by rw [r3]; decide), r1, r2⟩)⟩
  · exact ⟨0, .inl ⟨rfl, decide_eq_false (by unfold pe rqe fitc; rw [if_pos hok, if_neg hfit]; decide)⟩⟩
theorem field_sub (f g : RQ) (hf : f.ok = true) (hg : g.ok = true) (l1 : ln f.n.val.natAbs ≤ 256) (l2 : ln f.d.val.natAbs ≤ 256) :
    ∃ c : Nat, (c = 0 ∧ decide (ae f g = 0) = false) ∨
      (c = 1 ∧ decide (ae f g = 0) = true ∧ decide (rse (vq (an f g) (ad_ f g)) g = 0) = true ∧ rsn (vq (an f g) (ad_ f g)) g = f.n.val ∧ rsd (vq (an f g) (ad_ f g)) g = f.d.val) := by
  have hok : (f.ok && g.ok) = true := by rw [hf, hg]; rfl
  have hb := RQ.ok_pos hf
  have hd := RQ.ok_pos hg
  have hD : fmD f g ≠ 0 := Int.mul_ne_zero (by omega) (by omega)
  by_cases hfit : fitb (qn (faN f g) (fmD f g)) (qd (faN f g) (fmD f g)) = true
  · have e1 : an f g = qn (faN f g) (fmD f g) := by unfold an rqn fitn; rw [if_pos hok, if_pos hfit]
    have e2 : ad_ f g = qd (faN f g) (fmD f g) := by unfold ad_ rqd fitd; rw [if_pos hok, if_pos hfit]
    have e3 : ae f g = 0 := by unfold ae rqe fitc; rw [if_pos hok, if_pos hfit]
    obtain ⟨q1, q2⟩ := fitb_lens hfit
    have hv : (vq (an f g) (ad_ f g)).ok = true := by rw [e1, e2]; exact vq_ok q1 q2 (qd_pos hD) (q_gcd hD)
    have hvg : ((vq (an f g) (ad_ f g)).ok && g.ok) = true := by rw [hv, hg]; rfl
    obtain ⟨u1, u2⟩ := field_add (c := g.n.val) hb (RQ.ok_gcd hf) hd
    have u0 : (vq (an f g) (ad_ f g)).n.val * g.d.val + -g.n.val * (vq (an f g) (ad_ f g)).d.val = qn (faN f g) (fmD f g) * g.d.val - g.n.val * qd (faN f g) (fmD f g) := by
      rw [vq_n, vq_d, e1, e2, Int.neg_mul]; omega
    have u3 : qn ((vq (an f g) (ad_ f g)).n.val * g.d.val + -g.n.val * (vq (an f g) (ad_ f g)).d.val) ((vq (an f g) (ad_ f g)).d.val * g.d.val) = f.n.val := by rw [u0, vq_d, e2]; exact u1
    have u4 : qd ((vq (an f g) (ad_ f g)).n.val * g.d.val + -g.n.val * (vq (an f g) (ad_ f g)).d.val) ((vq (an f g) (ad_ f g)).d.val * g.d.val) = f.d.val := by rw [u0, vq_d, e2]; exact u2
    have hfb : fitb f.n.val f.d.val = true := by unfold fitb; rw [decide_eq_true l1, decide_eq_true l2]; rfl
    have r1 : rsn (vq (an f g) (ad_ f g)) g = f.n.val := by unfold rsn rqn; rw [if_pos hvg, u3, u4]; exact if_pos hfb
    have r2 : rsd (vq (an f g) (ad_ f g)) g = f.d.val := by unfold rsd rqd; rw [if_pos hvg, u3, u4]; exact if_pos hfb
    have r3 : rse (vq (an f g) (ad_ f g)) g = 0 := by unfold rse rqe; rw [if_pos hvg, u3, u4]; exact if_pos hfb
    exact ⟨1, .inr ⟨rfl, decide_eq_true e3, decide_eq_true r3, r1, r2⟩⟩
  · exact ⟨0, .inl ⟨rfl, decide_eq_false (by unfold ae rqe fitc; rw [if_pos hok, if_neg hfit]; decide)⟩⟩
theorem field_floor (f : RQ) (hf : f.ok = true) : decide (sgnv (f.n.val / f.d.val * f.d.val - f.n.val) ≤ 0) = true ∧ decide (0 < sgnv (f.n.val / f.d.val * f.d.val + f.d.val - f.n.val)) = true := by
  obtain ⟨h1, h2⟩ := floor_low (a := f.n.val) (RQ.ok_pos hf)
  constructor
  · apply decide_eq_true
    unfold sgnv
    split
    · decide
    · rw [if_pos (by omega)]; decide
  · rw [sgnv_pos]
    exact decide_eq_true (by omega)
theorem Ratmul_f (f g : RQ) (v1 v2 : Value) (w : World) (h1 : (isL [rC f.n, rC f.d]).p v1 w) (h2 : (isL [rC g.n, rC g.d]).p v2 w) :
    Calls Try.prog 52 #[v1, v2] w (Got w (isP (isL [zC (pn f g), zC (pd f g)]) (isV (.int .i64 (pe f g)))).p) := RatMul_got f g v1 v2 w h1 h2
theorem Ratadd_f (f g : RQ) (v1 v2 : Value) (w : World) (h1 : (isL [rC f.n, rC f.d]).p v1 w) (h2 : (isL [rC g.n, rC g.d]).p v2 w) :
    Calls Try.prog 51 #[v1, v2] w (Got w (isP (isL [zC (an f g), zC (ad_ f g)]) (isV (.int .i64 (ae f g)))).p) := RatAdd_got f g v1 v2 w h1 h2
set_option maxRecDepth 100000 in
set_option maxHeartbeats 1000000 in
theorem Field_got (f g : RQ) (v0 v1 : Value) (w : World) (h0 : (isL [rC f.n, rC f.d]).p v0 w) (h1 : (isL [rC g.n, rC g.d]).p v1 w) :
    Calls Try.prog 11 #[v0, v1] w (Got w (isV (.bool true)).p) := by
  obtain ⟨u0, x0, y0, z0, rfl, p0, q0⟩ := isL_two.1 h0
  obtain ⟨u1, x1, y1, z1, rfl, p1, q1⟩ := isL_two.1 h1
  clear h0 h1
  by_cases hok : (f.ok && g.ok) = true
  · have hf : f.ok = true := by simp at hok; exact hok.1
    have hg : g.ok = true := by simp at hok; exact hok.2
    obtain ⟨l1, l2⟩ := ok_lens hf p0 q0
    obtain ⟨m1, m2⟩ := ok_lens hg p1 q1
    obtain ⟨cq, hcq⟩ := field_div f g hf hg l1 l2
    have HC6 := Hd.mk hcq
    obtain ⟨cs, hcs⟩ := field_sub f g hf hg l1 l2
    have HC10 := Hd.mk hcs
    have HLE := Hd.mk (field_floor f hf).1
    have HGT := Hd.mk (field_floor f hf).2
    have HOf := Hd.mk hf
    have HOg := Hd.mk hg
    have HK1 := Hd.mk (RQ.ok_n hf)
    have HK2 := Hd.mk (RQ.ok_d hf)
    have HK3 := Hd.mk (RQ.ok_n hg)
    have HK4 := Hd.mk (RQ.ok_d hg)
    have l3 : ln (f.n.val / f.d.val).natAbs ≤ 256 := Nat.le_trans (ln_mono (Int.natAbs_ediv_le_natAbs _ _)) l1
    have l4 : ln (f.n.val / f.d.val * f.d.val).natAbs ≤ 600 := Nat.le_trans (ln_zmul _ _) (by omega)
    have l5 : ln (f.n.val / f.d.val * f.d.val + f.d.val).natAbs ≤ 700 := Nat.le_trans (ln_zadd _ _) (by omega)
    clear hok hf hg hcq hcs
    go_enter Try.func11, Try.ntmps11
    go_upto_region 1 with fail
    obtain ⟨W0, hW0⟩ : ∃ W : World, W = (w.alloc (.cells #[u0, x0, y0, z0] 58)).alloc (.cells #[u1, x1, y1, z1] 58) := ⟨_, rfl⟩
    rw [← hW0]
    obtain ⟨he, hb⟩ := env_two (cp2 p0 q0) (cp2 p1 q1) hW0
    have HE := Hd.mk he
    have HB := Hd.mk hb
    clear he hb hW0
    refine wp_region_vd 8 [16, 17, 18, 19, 20, 21, 22, 23] [2, 3, 6, 7] [] 70 [.bool false, .slice none 0 0] [isL [rC f.n, rC f.d], isV (.bool true), isV (.bool false), isV (.bool false), isL [rC g.n, rC g.d], isV (.bool true), isV (.bool false), isV (.bool false)] (by rfl) alloc_whole ?_ ?_
    · intro i hi hA aa wx hb hs hd
      match i, hi, hA with
      | 0, _, _ => exact .inl ⟨rfl, op_ldR rfl rfl (hs 2 rfl) ((HE.out.to hb).get 0 rfl)⟩
      | 1, _, _ => exact .inl ⟨rfl, wp_b HOf.out (op_call1 rfl rfl Try.call50 (ValidRat_got f _ _ (hd 0 rfl)))⟩
      | 2, _, _ => exact .inl ⟨rfl, ⟨_, op_not rfl (hd 1 rfl), rfl⟩⟩
      | 3, _, _ => exact .inl ⟨rfl, op_mv rfl (hd 2 rfl)⟩
      | 4, _, _ => exact .inl ⟨⟨rfl, hd 3 rfl⟩, op_ldR rfl rfl (hs 3 rfl) ((HE.out.to hb).get 1 rfl)⟩
      | 5, _, _ => exact .inl ⟨⟨rfl, hd 3 rfl⟩, wp_b HOg.out (op_call1 rfl rfl Try.call50 (ValidRat_got g _ _ (hd 4 rfl)))⟩
      | 6, _, _ => exact .inl ⟨⟨rfl, hd 3 rfl⟩, ⟨_, op_not rfl (hd 5 rfl), rfl⟩⟩
      | 7, _, _ => exact .inl ⟨rfl, ⟨_, op_pickF rfl (hd 3 rfl) (hd 6 rfl), rfl⟩⟩
      | i + 8, h, _ => omega
    · intro vs X1 hb hv hal hne
      replace HB := Hd.mk (bel_then HB.out hb)
      replace HE : Hd (Env X1 [⟨w.heap.size, 58, [rC f.n, rC f.d]⟩, ⟨w.heap.size + 1, 58, [rC g.n, rC g.d]⟩]) := ⟨HE.out.to hb⟩
      have e23 : vs 23 = .bool false := hv 7 (by decide) rfl
      simp only [putAll, List.foldl_cons, List.foldl_nil, Act.put, List.setIfInBounds_toArray, List.set_cons_succ, List.set_cons_zero, List.drop_succ_cons, List.drop_zero, e23]
      generalize vs 16 = s16
      generalize vs 17 = s17
      generalize vs 18 = s18
      generalize vs 19 = s19
      generalize vs 20 = s20
      generalize vs 21 = s21
      generalize vs 22 = s22
      clear hv hal hne hb
      go_upto_region 4 with fail
      refine wp_region_vd 7 [36, 37, 38, 35, 39, 40, 7] [3, 4, 5] [6] 58 [.bool false, .slice none 0 0, .bool false, .slice none 0 0] [isL [rC f.n, rC f.d], isL [rC g.n, rC g.d], isP (isL [zC (pn f g), zC (pd f g)]) (isV (.int .i64 (pe f g))), isP (isL [zC (pn f g), zC (pd f g)]) (isV (.int .i64 (pe f g))), isL [zC (pn f g), zC (pd f g)], isV (.int .i64 (pe f g)), SP.any] (by rfl) alloc_R ?_ ?_
      · intro i hi hA aa wx hb hs hd
        match i, hi, hA with
        | 0, _, _ => exact .inl ⟨rfl, op_ldR rfl rfl (hs 2 rfl) ((HE.out.to hb).get 0 rfl)⟩
        | 1, _, _ => exact .inl ⟨rfl, op_ldR rfl rfl (hs 3 rfl) ((HE.out.to hb).get 1 rfl)⟩
        | 2, _, _ => exact .inl ⟨rfl, op_call2 rfl rfl Try.call52 (Ratmul_f f g _ _ _ (hd 0 rfl) (hd 1 rfl))⟩
        | 3, _, _ => exact .inl ⟨rfl, op_mv rfl (hd 2 rfl)⟩
        | 4, _, _ => exact .inl ⟨rfl, op_fst rfl (hd 3 rfl)⟩
        | 5, _, _ => exact .inl ⟨rfl, op_snd rfl (hd 3 rfl)⟩
        | 6, _, h => cases h
        | i + 7, h, _ => omega
      · intro vs X2 hb hv hal hne
        have HL0 := Hd.mk (HE.out.lt)
        have HBW := HB
        replace HB := Hd.mk (bel_then HB.out hb)
        replace HE : Hd (Env X2 [⟨w.heap.size, 58, [rC f.n, rC f.d]⟩, ⟨w.heap.size + 1, 58, [rC g.n, rC g.d]⟩]) := ⟨HE.out.to hb⟩
        obtain ⟨g7, e7, l7, b7⟩ : ∃ g, vs 7 = .pointer (some ⟨g, 0, none⟩) ∧ _ := hal 6 rfl
        have t39 : (isL [zC (pn f g), zC (pd f g)]).p (vs 39) X2 := hv 4 (by decide) rfl
        obtain ⟨u39, y39, p39, q39, e39, c39, k39⟩ := isL_two.1 t39
        have e40 : vs 40 = .int .i64 (pe f g) := hv 5 (by decide) rfl
        simp only [putAll, List.foldl_cons, List.foldl_nil, Act.put, List.setIfInBounds_toArray, List.set_cons_succ, List.set_cons_zero, List.drop_succ_cons, List.drop_zero, e7, e39, e40]
        generalize vs 36 = s36
        generalize vs 37 = s37
        generalize vs 38 = s38
        generalize vs 35 = s35
        replace HE : Hd (Env X2 [⟨w.heap.size, 58, [rC f.n, rC f.d]⟩, ⟨w.heap.size + 1, 58, [rC g.n, rC g.d]⟩, ⟨g7, 58, [aC, aC]⟩]) := ⟨Env.addne (e := ⟨g7, 58, [aC, aC]⟩) HE.out ⟨_, b7, cp2 (cpz _) (cpz _)⟩ (fun e' he => Nat.ne_of_lt (Nat.lt_of_lt_of_le (HL0.out e' he) l7))⟩
        have G7 : Hd (w.heap.size ≤ g7) := ⟨Nat.le_trans HBW.out.size l7⟩
        clear l7 b7
        clear HL0 HBW e7
        refine wpList_st rfl rfl rfl rfl rfl (sto_R c39 k39 (HE.out.get 2 rfl)) ?_
        have HE' : Env (putAt (putAt X2 g7 0 u39 y39) g7 2 p39 q39) [⟨w.heap.size, 58, [rC f.n, rC f.d]⟩, ⟨w.heap.size + 1, 58, [rC g.n, rC g.d]⟩, ⟨g7, 58, [zC (pn f g), zC (pd f g)]⟩] := HE.out.put4 2 rfl c39 k39
        have HB' := below_put4 (u := u39) (v := y39) (u' := p39) (v' := q39) HB.out (show w.heap.size ≤ g7 from G7.out)
        generalize putAt (putAt X2 g7 0 u39 y39) g7 2 p39 q39 = X3 at *
        replace HE := Hd.mk HE'
        replace HB := Hd.mk HB'
        clear HE' HB'
        clear hv hal hne hb
        go_upto_region 5 with fail
        refine wp_region_vd 7 [42, 43, 44, 41, 45, 46, 9] [3, 4, 5] [6] 58 [.bool false, .slice none 0 0, .bool false, .slice none 0 0] [isL [zC (pn f g), zC (pd f g)], isL [rC g.n, rC g.d], isP (isL [zC (rdn (vq (pn f g) (pd f g)) g), zC (rdd (vq (pn f g) (pd f g)) g)]) (isV (.int .i64 (rde (vq (pn f g) (pd f g)) g))), isP (isL [zC (rdn (vq (pn f g) (pd f g)) g), zC (rdd (vq (pn f g) (pd f g)) g)]) (isV (.int .i64 (rde (vq (pn f g) (pd f g)) g))), isL [zC (rdn (vq (pn f g) (pd f g)) g), zC (rdd (vq (pn f g) (pd f g)) g)], isV (.int .i64 (rde (vq (pn f g) (pd f g)) g)), SP.any] (by rfl) alloc_R ?_ ?_
        · intro i hi hA aa wx hb hs hd
          match i, hi, hA with
          | 0, _, _ => exact .inl ⟨rfl, op_ldR rfl rfl (hs 7 rfl) ((HE.out.to hb).get 2 rfl)⟩
          | 1, _, _ => exact .inl ⟨rfl, op_ldR rfl rfl (hs 3 rfl) ((HE.out.to hb).get 1 rfl)⟩
          | 2, _, _ => exact .inl ⟨rfl, op_call2 rfl rfl Try.call53 (RatDiv_num (pn f g) (pd f g) g _ _ _ (hd 0 rfl) (hd 1 rfl))⟩
          | 3, _, _ => exact .inl ⟨rfl, op_mv rfl (hd 2 rfl)⟩
          | 4, _, _ => exact .inl ⟨rfl, op_fst rfl (hd 3 rfl)⟩
          | 5, _, _ => exact .inl ⟨rfl, op_snd rfl (hd 3 rfl)⟩
          | 6, _, h => cases h
          | i + 7, h, _ => omega
        · intro vs X4 hb hv hal hne
          have HL0 := Hd.mk (HE.out.lt)
          have HBW := HB
          replace HB := Hd.mk (bel_then HB.out hb)
          replace HE : Hd (Env X4 [⟨w.heap.size, 58, [rC f.n, rC f.d]⟩, ⟨w.heap.size + 1, 58, [rC g.n, rC g.d]⟩, ⟨g7, 58, [zC (pn f g), zC (pd f g)]⟩]) := ⟨HE.out.to hb⟩
          obtain ⟨g9, e9, l9, b9⟩ : ∃ g, vs 9 = .pointer (some ⟨g, 0, none⟩) ∧ _ := hal 6 rfl
          have t45 : (isL [zC (rdn (vq (pn f g) (pd f g)) g), zC (rdd (vq (pn f g) (pd f g)) g)]).p (vs 45) X4 := hv 4 (by decide) rfl
          obtain ⟨u45, y45, p45, q45, e45, c45, k45⟩ := isL_two.1 t45
          have e46 : vs 46 = .int .i64 (rde (vq (pn f g) (pd f g)) g) := hv 5 (by decide) rfl
          simp only [putAll, List.foldl_cons, List.foldl_nil, Act.put, List.setIfInBounds_toArray, List.set_cons_succ, List.set_cons_zero, List.drop_succ_cons, List.drop_zero, e9, e45, e46]
          generalize vs 42 = s42
          generalize vs 43 = s43
          generalize vs 44 = s44
          generalize vs 41 = s41
          replace HE : Hd (Env X4 [⟨w.heap.size, 58, [rC f.n, rC f.d]⟩, ⟨w.heap.size + 1, 58, [rC g.n, rC g.d]⟩, ⟨g7, 58, [zC (pn f g), zC (pd f g)]⟩, ⟨g9, 58, [aC, aC]⟩]) := ⟨Env.addne (e := ⟨g9, 58, [aC, aC]⟩) HE.out ⟨_, b9, cp2 (cpz _) (cpz _)⟩ (fun e' he => Nat.ne_of_lt (Nat.lt_of_lt_of_le (HL0.out e' he) l9))⟩
          have G9 : Hd (w.heap.size ≤ g9) := ⟨Nat.le_trans HBW.out.size l9⟩
          clear l9 b9
          clear HL0 HBW e9
          refine wpList_st rfl rfl rfl rfl rfl (sto_R c45 k45 (HE.out.get 3 rfl)) ?_
          have HE' : Env (putAt (putAt X4 g9 0 u45 y45) g9 2 p45 q45) [⟨w.heap.size, 58, [rC f.n, rC f.d]⟩, ⟨w.heap.size + 1, 58, [rC g.n, rC g.d]⟩, ⟨g7, 58, [zC (pn f g), zC (pd f g)]⟩, ⟨g9, 58, [zC (rdn (vq (pn f g) (pd f g)) g), zC (rdd (vq (pn f g) (pd f g)) g)]⟩] := HE.out.put4 3 rfl c45 k45
          have HB' := below_put4 (u := u45) (v := y45) (u' := p45) (v' := q45) HB.out (show w.heap.size ≤ g9 from G9.out)
          generalize putAt (putAt X4 g9 0 u45 y45) g9 2 p45 q45 = X5 at *
          replace HE := Hd.mk HE'
          replace HB := Hd.mk HB'
          clear HE' HB'
          clear hv hal hne hb
          go_upto_region 6 with fail
          refine wp_region_vd 27 [47, 48, 49, 50, 51, 52, 53, 54, 55, 56, 57, 58, 59, 60, 61, 62, 63, 64, 65, 66, 67, 68, 69, 70, 71, 72, 73] [0, 1, 2, 3, 4, 5, 6, 10, 11, 12, 13, 14, 15, 16, 17, 18, 19, 20, 24, 25, 26] [] 70 [.bool false, .slice none 0 0] [isV (.int .i64 (pe f g)), (match cq with | 0 => isV (.bool false) | 1 => isV (.bool true) | _ => isV (.bool true) : SP), (match cq with | 0 => isV (.bool false) | 1 => isV (.bool true) | _ => isV (.bool true) : SP), (match cq with | 0 => SP.any | 1 => isV (.int .i64 (rde (vq (pn f g) (pd f g)) g)) | _ => isV (.int .i64 (rde (vq (pn f g) (pd f g)) g)) : SP), (match cq with | 0 => SP.any | 1 => isV (.bool true) | _ => isV (.bool false) : SP), (match cq with | 0 => isV (.bool false) | 1 => isV (.bool true) | _ => isV (.bool false) : SP), (match cq with | 0 => isV (.bool false) | 1 => isV (.bool true) | _ => isV (.bool false) : SP), (match cq with | 0 => SP.any | 1 => isL [zC (rdn (vq (pn f g) (pd f g)) g), zC (rdd (vq (pn f g) (pd f g)) g)] | _ => SP.any : SP), (match cq with | 0 => SP.any | 1 => isL [rC f.n, rC f.d] | _ => SP.any : SP), (match cq with | 0 => SP.any | 1 => isV (.bool true) | _ => SP.any : SP), (match cq with | 0 => SP.any | 1 => isV (.bool false) | _ => SP.any : SP), isV (.bool false), isV (.bool false), isV (.int .i64 (pe f g)), (match cq with | 0 => isV (.bool false) | 1 => isV (.bool true) | _ => isV (.bool true) : SP), (match cq with | 0 => isV (.bool false) | 1 => isV (.bool true) | _ => isV (.bool true) : SP), (match cq with | 0 => SP.any | 1 => isV (.int .i64 (rde (vq (pn f g) (pd f g)) g)) | _ => isV (.int .i64 (rde (vq (pn f g) (pd f g)) g)) : SP), (match cq with | 0 => SP.any | 1 => isV (.bool false) | _ => isV (.bool true) : SP), (match cq with | 0 => isV (.bool false) | 1 => isV (.bool false) | _ => isV (.bool true) : SP), (match cq with | 0 => isV (.bool false) | 1 => isV (.bool false) | _ => isV (.bool true) : SP), (match cq with | 0 => SP.any | 1 => SP.any | _ => isV (.pointer (some ⟨w.heap.size + 1, 0, none⟩)) : SP), (match cq with | 0 => SP.any | 1 => SP.any | _ => isL [rC g.n] : SP), (match cq with | 0 => SP.any | 1 => SP.any | _ => isZ g.n.val : SP), (match cq with | 0 => SP.any | 1 => SP.any | _ => isV (.bool true) : SP), (match cq with | 0 => SP.any | 1 => SP.any | _ => isV (.bool false) : SP), isV (.bool false), isV (.bool false)] (by rfl) alloc_whole ?_ ?_
          · intro i hi hA aa wx hb hs hd
            rcases HC6.out with ⟨rfl, k1⟩ | ⟨rfl, k1, k2, k3, k4, k5⟩ | ⟨rfl, k1, k2, k3, k4⟩
            · match i, hi, hA with
              | 0, _, _ => exact .inl ⟨rfl, op_mv rfl (hs 8 rfl)⟩
              | 1, _, _ => exact .inl ⟨rfl, pure_b k1 (⟨_, op_eqlcE rfl (hd 0 rfl), rfl⟩)⟩
              | 2, _, _ => exact .inl ⟨rfl, op_mv rfl (hd 1 rfl)⟩
              | 3, _, _ => exact .inr ⟨⟨rfl, hd 2 rfl⟩, trivial⟩
              | 4, _, _ => exact .inr ⟨⟨rfl, hd 2 rfl⟩, trivial⟩
              | 5, _, _ => exact .inl ⟨rfl, ⟨_, op_pickF rfl (hd 2 rfl) rfl, rfl⟩⟩
              | 6, _, _ => exact .inl ⟨rfl, op_mv rfl (hd 5 rfl)⟩
              | 7, _, _ => exact .inr ⟨⟨rfl, hd 6 rfl⟩, trivial⟩
              | 8, _, _ => exact .inr ⟨⟨rfl, hd 6 rfl⟩, trivial⟩
              | 9, _, _ => exact .inr ⟨⟨rfl, hd 6 rfl⟩, trivial⟩
              | 10, _, _ => exact .inr ⟨⟨rfl, hd 6 rfl⟩, trivial⟩
              | 11, _, _ => exact .inl ⟨rfl, ⟨_, op_pickF rfl (hd 6 rfl) rfl, rfl⟩⟩
              | 12, _, _ => exact .inl ⟨rfl, op_mv rfl (hd 11 rfl)⟩
              | 13, _, _ => exact .inl ⟨⟨rfl, hd 12 rfl⟩, op_mv rfl (hs 8 rfl)⟩
              | 14, _, _ => exact .inl ⟨⟨rfl, hd 12 rfl⟩, pure_b k1 (⟨_, op_eqlcE rfl (hd 13 rfl), rfl⟩)⟩
              | 15, _, _ => exact .inl ⟨⟨rfl, hd 12 rfl⟩, op_mv rfl (hd 14 rfl)⟩
              | 16, _, _ => exact .inr ⟨⟨rfl, hd 15 rfl⟩, trivial⟩
              | 17, _, _ => exact .inr ⟨⟨rfl, hd 15 rfl⟩, trivial⟩
              | 18, _, _ => exact .inl ⟨⟨rfl, hd 12 rfl⟩, ⟨_, op_pickF rfl (hd 15 rfl) rfl, rfl⟩⟩
              | 19, _, _ => exact .inl ⟨⟨rfl, hd 12 rfl⟩, op_mv rfl (hd 18 rfl)⟩
              | 20, _, _ => exact .inr ⟨⟨rfl, hd 19 rfl⟩, trivial⟩
              | 21, _, _ => exact .inr ⟨⟨rfl, hd 19 rfl⟩, trivial⟩
              | 22, _, _ => exact .inr ⟨⟨rfl, hd 19 rfl⟩, trivial⟩
              | 23, _, _ => exact .inr ⟨⟨rfl, hd 19 rfl⟩, trivial⟩
              | 24, _, _ => exact .inr ⟨⟨rfl, hd 19 rfl⟩, trivial⟩
              | 25, _, _ => exact .inl ⟨⟨rfl, hd 12 rfl⟩, ⟨_, op_pickF rfl (hd 19 rfl) rfl, rfl⟩⟩
              | 26, _, _ => exact .inl ⟨rfl, ⟨_, op_pickF rfl (hd 12 rfl) (hd 25 rfl), rfl⟩⟩
              | i + 27, h, _ => omega
            · match i, hi, hA with
              | 0, _, _ => exact .inl ⟨rfl, op_mv rfl (hs 8 rfl)⟩
              | 1, _, _ => exact .inl ⟨rfl, pure_b k1 (⟨_, op_eqlcE rfl (hd 0 rfl), rfl⟩)⟩
              | 2, _, _ => exact .inl ⟨rfl, op_mv rfl (hd 1 rfl)⟩
              | 3, _, _ => exact .inl ⟨⟨rfl, hd 2 rfl⟩, op_mv rfl (hs 10 rfl)⟩
              | 4, _, _ => exact .inl ⟨⟨rfl, hd 2 rfl⟩, pure_b k2 (⟨_, op_eqlcE rfl (hd 3 rfl), rfl⟩)⟩
              | 5, _, _ => exact .inl ⟨rfl, ⟨_, op_pickT rfl (hd 2 rfl) (hd 4 rfl), rfl⟩⟩
              | 6, _, _ => exact .inl ⟨rfl, op_mv rfl (hd 5 rfl)⟩
              | 7, _, _ => exact .inl ⟨⟨rfl, hd 6 rfl⟩, op_ldR rfl rfl (hs 9 rfl) ((HE.out.to hb).get 3 rfl)⟩
              | 8, _, _ => exact .inl ⟨⟨rfl, hd 6 rfl⟩, op_ldR rfl rfl (hs 2 rfl) ((HE.out.to hb).get 0 rfl)⟩
              | 9, _, _ => exact .inl ⟨⟨rfl, hd 6 rfl⟩, op_call2 rfl rfl Try.call54 (SameRat_cast _ _ f HOf.out k4 k5 _ _ _ (hd 7 rfl) (hd 8 rfl))⟩
              | 10, _, _ => exact .inl ⟨⟨rfl, hd 6 rfl⟩, ⟨_, op_not rfl (hd 9 rfl), rfl⟩⟩
              | 11, _, _ => exact .inl ⟨rfl, ⟨_, op_pickT rfl (hd 6 rfl) (hd 10 rfl), rfl⟩⟩
              | 12, _, _ => exact .inl ⟨rfl, op_mv rfl (hd 11 rfl)⟩
              | 13, _, _ => exact .inl ⟨⟨rfl, hd 12 rfl⟩, op_mv rfl (hs 8 rfl)⟩
              | 14, _, _ => exact .inl ⟨⟨rfl, hd 12 rfl⟩, pure_b k1 (⟨_, op_eqlcE rfl (hd 13 rfl), rfl⟩)⟩
              | 15, _, _ => exact .inl ⟨⟨rfl, hd 12 rfl⟩, op_mv rfl (hd 14 rfl)⟩
              | 16, _, _ => exact .inl ⟨⟨rfl, hd 15 rfl⟩, op_mv rfl (hs 10 rfl)⟩
              | 17, _, _ => exact .inl ⟨⟨rfl, hd 15 rfl⟩, pure_b k3 (⟨_, op_eqlcE rfl (hd 16 rfl), rfl⟩)⟩
              | 18, _, _ => exact .inl ⟨⟨rfl, hd 12 rfl⟩, ⟨_, op_pickT rfl (hd 15 rfl) (hd 17 rfl), rfl⟩⟩
              | 19, _, _ => exact .inl ⟨⟨rfl, hd 12 rfl⟩, op_mv rfl (hd 18 rfl)⟩
              | 20, _, _ => exact .inr ⟨⟨rfl, hd 19 rfl⟩, trivial⟩
              | 21, _, _ => exact .inr ⟨⟨rfl, hd 19 rfl⟩, trivial⟩
              | 22, _, _ => exact .inr ⟨⟨rfl, hd 19 rfl⟩, trivial⟩
              | 23, _, _ => exact .inr ⟨⟨rfl, hd 19 rfl⟩, trivial⟩
              | 24, _, _ => exact .inr ⟨⟨rfl, hd 19 rfl⟩, trivial⟩
              | 25, _, _ => exact .inl ⟨⟨rfl, hd 12 rfl⟩, ⟨_, op_pickF rfl (hd 19 rfl) rfl, rfl⟩⟩
              | 26, _, _ => exact .inl ⟨rfl, ⟨_, op_pickF rfl (hd 12 rfl) (hd 25 rfl), rfl⟩⟩
              | i + 27, h, _ => omega
            · match i, hi, hA with
              | 0, _, _ => exact .inl ⟨rfl, op_mv rfl (hs 8 rfl)⟩
              | 1, _, _ => exact .inl ⟨rfl, pure_b k1 (⟨_, op_eqlcE rfl (hd 0 rfl), rfl⟩)⟩
              | 2, _, _ => exact .inl ⟨rfl, op_mv rfl (hd 1 rfl)⟩
              | 3, _, _ => exact .inl ⟨⟨rfl, hd 2 rfl⟩, op_mv rfl (hs 10 rfl)⟩
              | 4, _, _ => exact .inl ⟨⟨rfl, hd 2 rfl⟩, pure_b k2 (⟨_, op_eqlcE rfl (hd 3 rfl), rfl⟩)⟩
              | 5, _, _ => exact .inl ⟨rfl, ⟨_, op_pickT rfl (hd 2 rfl) (hd 4 rfl), rfl⟩⟩
              | 6, _, _ => exact .inl ⟨rfl, op_mv rfl (hd 5 rfl)⟩
              | 7, _, _ => exact .inr ⟨⟨rfl, hd 6 rfl⟩, trivial⟩
              | 8, _, _ => exact .inr ⟨⟨rfl, hd 6 rfl⟩, trivial⟩
              | 9, _, _ => exact .inr ⟨⟨rfl, hd 6 rfl⟩, trivial⟩
              | 10, _, _ => exact .inr ⟨⟨rfl, hd 6 rfl⟩, trivial⟩
              | 11, _, _ => exact .inl ⟨rfl, ⟨_, op_pickF rfl (hd 6 rfl) rfl, rfl⟩⟩
              | 12, _, _ => exact .inl ⟨rfl, op_mv rfl (hd 11 rfl)⟩
              | 13, _, _ => exact .inl ⟨⟨rfl, hd 12 rfl⟩, op_mv rfl (hs 8 rfl)⟩
              | 14, _, _ => exact .inl ⟨⟨rfl, hd 12 rfl⟩, pure_b k1 (⟨_, op_eqlcE rfl (hd 13 rfl), rfl⟩)⟩
              | 15, _, _ => exact .inl ⟨⟨rfl, hd 12 rfl⟩, op_mv rfl (hd 14 rfl)⟩
              | 16, _, _ => exact .inl ⟨⟨rfl, hd 15 rfl⟩, op_mv rfl (hs 10 rfl)⟩
              | 17, _, _ => exact .inl ⟨⟨rfl, hd 15 rfl⟩, pure_b k3 (⟨_, op_eqlcE rfl (hd 16 rfl), rfl⟩)⟩
              | 18, _, _ => exact .inl ⟨⟨rfl, hd 12 rfl⟩, ⟨_, op_pickT rfl (hd 15 rfl) (hd 17 rfl), rfl⟩⟩
              | 19, _, _ => exact .inl ⟨⟨rfl, hd 12 rfl⟩, op_mv rfl (hd 18 rfl)⟩
              | 20, _, _ => exact .inl ⟨⟨rfl, hd 19 rfl⟩, ⟨_, op_faR0 rfl (hs 3 rfl), rfl⟩⟩
              | 21, _, _ => exact .inl ⟨⟨rfl, hd 19 rfl⟩, op_ldI rfl rfl (hd 20 rfl) ((HE.out.to hb).get 1 rfl).a0⟩
              | 22, _, _ => exact .inl ⟨⟨rfl, hd 19 rfl⟩, op_call1 rfl rfl Try.call32 (rOf_rz g.n HK3.out _ _ (hd 21 rfl))⟩
              | 23, _, _ => exact .inl ⟨⟨rfl, hd 19 rfl⟩, wp_b k4 (op_call1 rfl rfl Try.call44 (rZero_got g.n.val _ _ (hd 22 rfl) (by omega)))⟩
              | 24, _, _ => exact .inl ⟨⟨rfl, hd 19 rfl⟩, ⟨_, op_not rfl (hd 23 rfl), rfl⟩⟩
              | 25, _, _ => exact .inl ⟨⟨rfl, hd 12 rfl⟩, ⟨_, op_pickT rfl (hd 19 rfl) (hd 24 rfl), rfl⟩⟩
              | 26, _, _ => exact .inl ⟨rfl, ⟨_, op_pickF rfl (hd 12 rfl) (hd 25 rfl), rfl⟩⟩
              | i + 27, h, _ => omega
          · intro vs X6 hb hv hal hne
            replace HB := Hd.mk (bel_then HB.out hb)
            replace HE : Hd (Env X6 [⟨w.heap.size, 58, [rC f.n, rC f.d]⟩, ⟨w.heap.size + 1, 58, [rC g.n, rC g.d]⟩, ⟨g7, 58, [zC (pn f g), zC (pd f g)]⟩, ⟨g9, 58, [zC (rdn (vq (pn f g) (pd f g)) g), zC (rdd (vq (pn f g) (pd f g)) g)]⟩]) := ⟨HE.out.to hb⟩
            have e73 : vs 73 = .bool false := hv 26 (by decide) rfl
            simp only [putAll, List.foldl_cons, List.foldl_nil, Act.put, List.setIfInBounds_toArray, List.set_cons_succ, List.set_cons_zero, List.drop_succ_cons, List.drop_zero, e73]
            generalize vs 47 = s47
            generalize vs 48 = s48
            generalize vs 49 = s49
            generalize vs 50 = s50
            generalize vs 51 = s51
            generalize vs 52 = s52
            generalize vs 53 = s53
            generalize vs 54 = s54
            generalize vs 55 = s55
            generalize vs 56 = s56
            generalize vs 57 = s57
            generalize vs 58 = s58
            generalize vs 59 = s59
            generalize vs 60 = s60
            generalize vs 61 = s61
            generalize vs 62 = s62
            generalize vs 63 = s63
            generalize vs 64 = s64
            generalize vs 65 = s65
            generalize vs 66 = s66
            generalize vs 67 = s67
            generalize vs 68 = s68
            generalize vs 69 = s69
            generalize vs 70 = s70
            generalize vs 71 = s71
            generalize vs 72 = s72
            clear hv hal hne hb
            go_upto_region 8 with fail
            refine wp_region_vd 7 [75, 76, 77, 74, 78, 79, 11] [3, 4, 5] [6] 58 [.bool false, .slice none 0 0, .bool false, .slice none 0 0] [isL [rC f.n, rC f.d], isL [rC g.n, rC g.d], isP (isL [zC (an f g), zC (ad_ f g)]) (isV (.int .i64 (ae f g))), isP (isL [zC (an f g), zC (ad_ f g)]) (isV (.int .i64 (ae f g))), isL [zC (an f g), zC (ad_ f g)], isV (.int .i64 (ae f g)), SP.any] (by rfl) alloc_R ?_ ?_
            · intro i hi hA aa wx hb hs hd
              match i, hi, hA with
              | 0, _, _ => exact .inl ⟨rfl, op_ldR rfl rfl (hs 2 rfl) ((HE.out.to hb).get 0 rfl)⟩
              | 1, _, _ => exact .inl ⟨rfl, op_ldR rfl rfl (hs 3 rfl) ((HE.out.to hb).get 1 rfl)⟩
              | 2, _, _ => exact .inl ⟨rfl, op_call2 rfl rfl Try.call51 (Ratadd_f f g _ _ _ (hd 0 rfl) (hd 1 rfl))⟩
              | 3, _, _ => exact .inl ⟨rfl, op_mv rfl (hd 2 rfl)⟩
              | 4, _, _ => exact .inl ⟨rfl, op_fst rfl (hd 3 rfl)⟩
              | 5, _, _ => exact .inl ⟨rfl, op_snd rfl (hd 3 rfl)⟩
              | 6, _, h => cases h
              | i + 7, h, _ => omega
            · intro vs X7 hb hv hal hne
              have HL0 := Hd.mk (HE.out.lt)
              have HBW := HB
              replace HB := Hd.mk (bel_then HB.out hb)
              replace HE : Hd (Env X7 [⟨w.heap.size, 58, [rC f.n, rC f.d]⟩, ⟨w.heap.size + 1, 58, [rC g.n, rC g.d]⟩, ⟨g7, 58, [zC (pn f g), zC (pd f g)]⟩, ⟨g9, 58, [zC (rdn (vq (pn f g) (pd f g)) g), zC (rdd (vq (pn f g) (pd f g)) g)]⟩]) := ⟨HE.out.to hb⟩
              obtain ⟨g11, e11, l11, b11⟩ : ∃ g, vs 11 = .pointer (some ⟨g, 0, none⟩) ∧ _ := hal 6 rfl
              have t78 : (isL [zC (an f g), zC (ad_ f g)]).p (vs 78) X7 := hv 4 (by decide) rfl
              obtain ⟨u78, y78, p78, q78, e78, c78, k78⟩ := isL_two.1 t78
              have e79 : vs 79 = .int .i64 (ae f g) := hv 5 (by decide) rfl
              simp only [putAll, List.foldl_cons, List.foldl_nil, Act.put, List.setIfInBounds_toArray, List.set_cons_succ, List.set_cons_zero, List.drop_succ_cons, List.drop_zero, e11, e78, e79]
              generalize vs 75 = s75
              generalize vs 76 = s76
              generalize vs 77 = s77
              generalize vs 74 = s74
              replace HE : Hd (Env X7 [⟨w.heap.size, 58, [rC f.n, rC f.d]⟩, ⟨w.heap.size + 1, 58, [rC g.n, rC g.d]⟩, ⟨g7, 58, [zC (pn f g), zC (pd f g)]⟩, ⟨g9, 58, [zC (rdn (vq (pn f g) (pd f g)) g), zC (rdd (vq (pn f g) (pd f g)) g)]⟩, ⟨g11, 58, [aC, aC]⟩]) := ⟨Env.addne (e := ⟨g11, 58, [aC, aC]⟩) HE.out ⟨_, b11, cp2 (cpz _) (cpz _)⟩ (fun e' he => Nat.ne_of_lt (Nat.lt_of_lt_of_le (HL0.out e' he) l11))⟩
              have G11 : Hd (w.heap.size ≤ g11) := ⟨Nat.le_trans HBW.out.size l11⟩
              clear l11 b11
              clear HL0 HBW e11
              refine wpList_st rfl rfl rfl rfl rfl (sto_R c78 k78 (HE.out.get 4 rfl)) ?_
              have HE' : Env (putAt (putAt X7 g11 0 u78 y78) g11 2 p78 q78) [⟨w.heap.size, 58, [rC f.n, rC f.d]⟩, ⟨w.heap.size + 1, 58, [rC g.n, rC g.d]⟩, ⟨g7, 58, [zC (pn f g), zC (pd f g)]⟩, ⟨g9, 58, [zC (rdn (vq (pn f g) (pd f g)) g), zC (rdd (vq (pn f g) (pd f g)) g)]⟩, ⟨g11, 58, [zC (an f g), zC (ad_ f g)]⟩] := HE.out.put4 4 rfl c78 k78
              have HB' := below_put4 (u := u78) (v := y78) (u' := p78) (v' := q78) HB.out (show w.heap.size ≤ g11 from G11.out)
              generalize putAt (putAt X7 g11 0 u78 y78) g11 2 p78 q78 = X8 at *
              replace HE := Hd.mk HE'
              replace HB := Hd.mk HB'
              clear HE' HB'
              clear hv hal hne hb
              go_upto_region 9 with fail
              refine wp_region_vd 7 [81, 82, 83, 80, 84, 85, 12] [3, 4, 5] [6] 58 [.bool false, .slice none 0 0, .bool false, .slice none 0 0] [isL [zC (an f g), zC (ad_ f g)], isL [rC g.n, rC g.d], isP (isL [zC (rsn (vq (an f g) (ad_ f g)) g), zC (rsd (vq (an f g) (ad_ f g)) g)]) (isV (.int .i64 (rse (vq (an f g) (ad_ f g)) g))), isP (isL [zC (rsn (vq (an f g) (ad_ f g)) g), zC (rsd (vq (an f g) (ad_ f g)) g)]) (isV (.int .i64 (rse (vq (an f g) (ad_ f g)) g))), isL [zC (rsn (vq (an f g) (ad_ f g)) g), zC (rsd (vq (an f g) (ad_ f g)) g)], isV (.int .i64 (rse (vq (an f g) (ad_ f g)) g)), SP.any] (by rfl) alloc_R ?_ ?_
              · intro i hi hA aa wx hb hs hd
                match i, hi, hA with
                | 0, _, _ => exact .inl ⟨rfl, op_ldR rfl rfl (hs 11 rfl) ((HE.out.to hb).get 4 rfl)⟩
                | 1, _, _ => exact .inl ⟨rfl, op_ldR rfl rfl (hs 3 rfl) ((HE.out.to hb).get 1 rfl)⟩
                | 2, _, _ => exact .inl ⟨rfl, op_call2 rfl rfl Try.call55 (RatSub_num (an f g) (ad_ f g) g _ _ _ (hd 0 rfl) (hd 1 rfl))⟩
                | 3, _, _ => exact .inl ⟨rfl, op_mv rfl (hd 2 rfl)⟩
                | 4, _, _ => exact .inl ⟨rfl, op_fst rfl (hd 3 rfl)⟩
                | 5, _, _ => exact .inl ⟨rfl, op_snd rfl (hd 3 rfl)⟩
                | 6, _, h => cases h
                | i + 7, h, _ => omega
              · intro vs X9 hb hv hal hne
                have HL0 := Hd.mk (HE.out.lt)
                have HBW := HB
                replace HB := Hd.mk (bel_then HB.out hb)
                replace HE : Hd (Env X9 [⟨w.heap.size, 58, [rC f.n, rC f.d]⟩, ⟨w.heap.size + 1, 58, [rC g.n, rC g.d]⟩, ⟨g7, 58, [zC (pn f g), zC (pd f g)]⟩, ⟨g9, 58, [zC (rdn (vq (pn f g) (pd f g)) g), zC (rdd (vq (pn f g) (pd f g)) g)]⟩, ⟨g11, 58, [zC (an f g), zC (ad_ f g)]⟩]) := ⟨HE.out.to hb⟩
                obtain ⟨g12, e12, l12, b12⟩ : ∃ g, vs 12 = .pointer (some ⟨g, 0, none⟩) ∧ _ := hal 6 rfl
                have t84 : (isL [zC (rsn (vq (an f g) (ad_ f g)) g), zC (rsd (vq (an f g) (ad_ f g)) g)]).p (vs 84) X9 := hv 4 (by decide) rfl
                obtain ⟨u84, y84, p84, q84, e84, c84, k84⟩ := isL_two.1 t84
                have e85 : vs 85 = .int .i64 (rse (vq (an f g) (ad_ f g)) g) := hv 5 (by decide) rfl
                simp only [putAll, List.foldl_cons, List.foldl_nil, Act.put, List.setIfInBounds_toArray, List.set_cons_succ, List.set_cons_zero, List.drop_succ_cons, List.drop_zero, e12, e84, e85]
                generalize vs 81 = s81
                generalize vs 82 = s82
                generalize vs 83 = s83
                generalize vs 80 = s80
                replace HE : Hd (Env X9 [⟨w.heap.size, 58, [rC f.n, rC f.d]⟩, ⟨w.heap.size + 1, 58, [rC g.n, rC g.d]⟩, ⟨g7, 58, [zC (pn f g), zC (pd f g)]⟩, ⟨g9, 58, [zC (rdn (vq (pn f g) (pd f g)) g), zC (rdd (vq (pn f g) (pd f g)) g)]⟩, ⟨g11, 58, [zC (an f g), zC (ad_ f g)]⟩, ⟨g12, 58, [aC, aC]⟩]) := ⟨Env.addne (e := ⟨g12, 58, [aC, aC]⟩) HE.out ⟨_, b12, cp2 (cpz _) (cpz _)⟩ (fun e' he => Nat.ne_of_lt (Nat.lt_of_lt_of_le (HL0.out e' he) l12))⟩
                have G12 : Hd (w.heap.size ≤ g12) := ⟨Nat.le_trans HBW.out.size l12⟩
                clear l12 b12
                clear HL0 HBW e12
                refine wpList_st rfl rfl rfl rfl rfl (sto_R c84 k84 (HE.out.get 5 rfl)) ?_
                have HE' : Env (putAt (putAt X9 g12 0 u84 y84) g12 2 p84 q84) [⟨w.heap.size, 58, [rC f.n, rC f.d]⟩, ⟨w.heap.size + 1, 58, [rC g.n, rC g.d]⟩, ⟨g7, 58, [zC (pn f g), zC (pd f g)]⟩, ⟨g9, 58, [zC (rdn (vq (pn f g) (pd f g)) g), zC (rdd (vq (pn f g) (pd f g)) g)]⟩, ⟨g11, 58, [zC (an f g), zC (ad_ f g)]⟩, ⟨g12, 58, [zC (rsn (vq (an f g) (ad_ f g)) g), zC (rsd (vq (an f g) (ad_ f g)) g)]⟩] := HE.out.put4 5 rfl c84 k84
                have HB' := below_put4 (u := u84) (v := y84) (u' := p84) (v' := q84) HB.out (show w.heap.size ≤ g12 from G12.out)
                generalize putAt (putAt X9 g12 0 u84 y84) g12 2 p84 q84 = X10 at *
                replace HE := Hd.mk HE'
                replace HB := Hd.mk HB'
                clear HE' HB'
                clear hv hal hne hb
                go_upto_region 10 with fail
                refine wp_region_vd 12 [86, 87, 88, 89, 90, 91, 92, 93, 94, 95, 96, 97] [0, 1, 2, 3, 4, 5, 6, 10, 11] [] 70 [.bool false, .slice none 0 0] [isV (.int .i64 (ae f g)), (match cs with | 0 => isV (.bool false) | _ => isV (.bool true) : SP), (match cs with | 0 => isV (.bool false) | _ => isV (.bool true) : SP), (match cs with | 0 => SP.any | _ => isV (.int .i64 (rse (vq (an f g) (ad_ f g)) g)) : SP), (match cs with | 0 => SP.any | _ => isV (.bool true) : SP), (match cs with | 0 => isV (.bool false) | _ => isV (.bool true) : SP), (match cs with | 0 => isV (.bool false) | _ => isV (.bool true) : SP), (match cs with | 0 => SP.any | _ => isL [zC (rsn (vq (an f g) (ad_ f g)) g), zC (rsd (vq (an f g) (ad_ f g)) g)] : SP), (match cs with | 0 => SP.any | _ => isL [rC f.n, rC f.d] : SP), (match cs with | 0 => SP.any | _ => isV (.bool true) : SP), (match cs with | 0 => SP.any | _ => isV (.bool false) : SP), isV (.bool false)] (by rfl) alloc_whole ?_ ?_
                · intro i hi hA aa wx hb hs hd
                  rcases HC10.out with ⟨rfl, k1⟩ | ⟨rfl, k1, k2, k3, k4⟩
                  · match i, hi, hA with
                    | 0, _, _ => exact .inl ⟨rfl, op_mv rfl (hs 8 rfl)⟩
                    | 1, _, _ => exact .inl ⟨rfl, pure_b k1 (⟨_, op_eqlcE rfl (hd 0 rfl), rfl⟩)⟩
                    | 2, _, _ => exact .inl ⟨rfl, op_mv rfl (hd 1 rfl)⟩
                    | 3, _, _ => exact .inr ⟨⟨rfl, hd 2 rfl⟩, trivial⟩
                    | 4, _, _ => exact .inr ⟨⟨rfl, hd 2 rfl⟩, trivial⟩
                    | 5, _, _ => exact .inl ⟨rfl, ⟨_, op_pickF rfl (hd 2 rfl) rfl, rfl⟩⟩
                    | 6, _, _ => exact .inl ⟨rfl, op_mv rfl (hd 5 rfl)⟩
                    | 7, _, _ => exact .inr ⟨⟨rfl, hd 6 rfl⟩, trivial⟩
                    | 8, _, _ => exact .inr ⟨⟨rfl, hd 6 rfl⟩, trivial⟩
                    | 9, _, _ => exact .inr ⟨⟨rfl, hd 6 rfl⟩, trivial⟩
                    | 10, _, _ => exact .inr ⟨⟨rfl, hd 6 rfl⟩, trivial⟩
                    | 11, _, _ => exact .inl ⟨rfl, ⟨_, op_pickF rfl (hd 6 rfl) rfl, rfl⟩⟩
                    | i + 12, h, _ => omega
                  · match i, hi, hA with
                    | 0, _, _ => exact .inl ⟨rfl, op_mv rfl (hs 8 rfl)⟩
                    | 1, _, _ => exact .inl ⟨rfl, pure_b k1 (⟨_, op_eqlcE rfl (hd 0 rfl), rfl⟩)⟩
                    | 2, _, _ => exact .inl ⟨rfl, op_mv rfl (hd 1 rfl)⟩
                    | 3, _, _ => exact .inl ⟨⟨rfl, hd 2 rfl⟩, op_mv rfl (hs 13 rfl)⟩
                    | 4, _, _ => exact .inl ⟨⟨rfl, hd 2 rfl⟩, pure_b k2 (⟨_, op_eqlcE rfl (hd 3 rfl), rfl⟩)⟩
                    | 5, _, _ => exact .inl ⟨rfl, ⟨_, op_pickT rfl (hd 2 rfl) (hd 4 rfl), rfl⟩⟩
                    | 6, _, _ => exact .inl ⟨rfl, op_mv rfl (hd 5 rfl)⟩
                    | 7, _, _ => exact .inl ⟨⟨rfl, hd 6 rfl⟩, op_ldR rfl rfl (hs 12 rfl) ((HE.out.to hb).get 5 rfl)⟩
                    | 8, _, _ => exact .inl ⟨⟨rfl, hd 6 rfl⟩, op_ldR rfl rfl (hs 2 rfl) ((HE.out.to hb).get 0 rfl)⟩
                    | 9, _, _ => exact .inl ⟨⟨rfl, hd 6 rfl⟩, op_call2 rfl rfl Try.call54 (SameRat_cast _ _ f HOf.out k3 k4 _ _ _ (hd 7 rfl) (hd 8 rfl))⟩
                    | 10, _, _ => exact .inl ⟨⟨rfl, hd 6 rfl⟩, ⟨_, op_not rfl (hd 9 rfl), rfl⟩⟩
                    | 11, _, _ => exact .inl ⟨rfl, ⟨_, op_pickT rfl (hd 6 rfl) (hd 10 rfl), rfl⟩⟩
                    | i + 12, h, _ => omega
                · intro vs X11 hb hv hal hne
                  replace HB := Hd.mk (bel_then HB.out hb)
                  replace HE : Hd (Env X11 [⟨w.heap.size, 58, [rC f.n, rC f.d]⟩, ⟨w.heap.size + 1, 58, [rC g.n, rC g.d]⟩, ⟨g7, 58, [zC (pn f g), zC (pd f g)]⟩, ⟨g9, 58, [zC (rdn (vq (pn f g) (pd f g)) g), zC (rdd (vq (pn f g) (pd f g)) g)]⟩, ⟨g11, 58, [zC (an f g), zC (ad_ f g)]⟩, ⟨g12, 58, [zC (rsn (vq (an f g) (ad_ f g)) g), zC (rsd (vq (an f g) (ad_ f g)) g)]⟩]) := ⟨HE.out.to hb⟩
                  have e97 : vs 97 = .bool false := hv 11 (by decide) rfl
                  simp only [putAll, List.foldl_cons, List.foldl_nil, Act.put, List.setIfInBounds_toArray, List.set_cons_succ, List.set_cons_zero, List.drop_succ_cons, List.drop_zero, e97]
                  generalize vs 86 = s86
                  generalize vs 87 = s87
                  generalize vs 88 = s88
                  generalize vs 89 = s89
                  generalize vs 90 = s90
                  generalize vs 91 = s91
                  generalize vs 92 = s92
                  generalize vs 93 = s93
                  generalize vs 94 = s94
                  generalize vs 95 = s95
                  generalize vs 96 = s96
                  clear hv hal hne hb
                  go_upto_region 12 with fail
                  refine wp_region_vd 6 [99, 100, 98, 101, 102, 14] [2, 3, 4] [5] 24 [.bool false, .slice none 0 0] [isL [rC f.n, rC f.d], isP (isZ (f.n.val / f.d.val)) (isV (.int .i64 0)), isP (isZ (f.n.val / f.d.val)) (isV (.int .i64 0)), isZ (f.n.val / f.d.val), isV (.int .i64 0), SP.any] (by rfl) alloc_api ?_ ?_
                  · intro i hi hA aa wx hb hs hd
                    match i, hi, hA with
                    | 0, _, _ => exact .inl ⟨rfl, op_ldR rfl rfl (hs 2 rfl) ((HE.out.to hb).get 0 rfl)⟩
                    | 1, _, _ => exact .inl ⟨rfl, op_call1 rfl rfl Try.call56 (RatFloor_ok f HOf.out _ _ (hd 0 rfl))⟩
                    | 2, _, _ => exact .inl ⟨rfl, op_mv rfl (hd 1 rfl)⟩
                    | 3, _, _ => exact .inl ⟨rfl, op_fst rfl (hd 2 rfl)⟩
                    | 4, _, _ => exact .inl ⟨rfl, op_snd rfl (hd 2 rfl)⟩
                    | 5, _, h => cases h
                    | i + 6, h, _ => omega
                  · intro vs X12 hb hv hal hne
                    have HL0 := Hd.mk (HE.out.lt)
                    have HBW := HB
                    replace HB := Hd.mk (bel_then HB.out hb)
                    replace HE : Hd (Env X12 [⟨w.heap.size, 58, [rC f.n, rC f.d]⟩, ⟨w.heap.size + 1, 58, [rC g.n, rC g.d]⟩, ⟨g7, 58, [zC (pn f g), zC (pd f g)]⟩, ⟨g9, 58, [zC (rdn (vq (pn f g) (pd f g)) g), zC (rdd (vq (pn f g) (pd f g)) g)]⟩, ⟨g11, 58, [zC (an f g), zC (ad_ f g)]⟩, ⟨g12, 58, [zC (rsn (vq (an f g) (ad_ f g)) g), zC (rsd (vq (an f g) (ad_ f g)) g)]⟩]) := ⟨HE.out.to hb⟩
                    obtain ⟨g14, e14, l14, b14⟩ : ∃ g, vs 14 = .pointer (some ⟨g, 0, none⟩) ∧ _ := hal 5 rfl
                    have t101 : (isZ (f.n.val / f.d.val)).p (vs 101) X12 := hv 3 (by decide) rfl
                    obtain ⟨u101, y101, e101, c101⟩ := isL_one.1 (isL_isZ.2 t101)
                    have e102 : vs 102 = .int .i64 0 := hv 4 (by decide) rfl
                    simp only [putAll, List.foldl_cons, List.foldl_nil, Act.put, List.setIfInBounds_toArray, List.set_cons_succ, List.set_cons_zero, List.drop_succ_cons, List.drop_zero, e14, e101, e102]
                    generalize vs 99 = s99
                    generalize vs 100 = s100
                    generalize vs 98 = s98
                    replace HE : Hd (Env X12 [⟨w.heap.size, 58, [rC f.n, rC f.d]⟩, ⟨w.heap.size + 1, 58, [rC g.n, rC g.d]⟩, ⟨g7, 58, [zC (pn f g), zC (pd f g)]⟩, ⟨g9, 58, [zC (rdn (vq (pn f g) (pd f g)) g), zC (rdd (vq (pn f g) (pd f g)) g)]⟩, ⟨g11, 58, [zC (an f g), zC (ad_ f g)]⟩, ⟨g12, 58, [zC (rsn (vq (an f g) (ad_ f g)) g), zC (rsd (vq (an f g) (ad_ f g)) g)]⟩, ⟨g14, 24, [aC]⟩]) := ⟨Env.addne (e := ⟨g14, 24, [aC]⟩) HE.out ⟨_, b14, cp1 (cpz _)⟩ (fun e' he => Nat.ne_of_lt (Nat.lt_of_lt_of_le (HL0.out e' he) l14))⟩
                    have G14 : Hd (w.heap.size ≤ g14) := ⟨Nat.le_trans HBW.out.size l14⟩
                    clear l14 b14
                    clear HL0 HBW e14
                    refine wpList_st rfl rfl rfl rfl rfl (sto_I c101 (Slot.one _) (HE.out.get 6 rfl)) ?_
                    have HE' : Env (putAt X12 g14 0 u101 y101) [⟨w.heap.size, 58, [rC f.n, rC f.d]⟩, ⟨w.heap.size + 1, 58, [rC g.n, rC g.d]⟩, ⟨g7, 58, [zC (pn f g), zC (pd f g)]⟩, ⟨g9, 58, [zC (rdn (vq (pn f g) (pd f g)) g), zC (rdd (vq (pn f g) (pd f g)) g)]⟩, ⟨g11, 58, [zC (an f g), zC (ad_ f g)]⟩, ⟨g12, 58, [zC (rsn (vq (an f g) (ad_ f g)) g), zC (rsd (vq (an f g) (ad_ f g)) g)]⟩, ⟨g14, 24, [zC (f.n.val / f.d.val)]⟩] := HE.out.put1 6 rfl c101
                    have HB' := below_putAt (o := 0) (u := u101) (v := y101) HB.out (show w.heap.size ≤ g14 from G14.out)
                    generalize putAt X12 g14 0 u101 y101 = X13 at *
                    replace HE := Hd.mk HE'
                    replace HB := Hd.mk HB'
                    clear HE' HB'
                    clear hv hal hne hb
                    go_upto_region 13 with fail
                    refine wp_region_vd 7 [103, 104, 105, 106, 107, 108, 109] [0, 1, 2, 5, 6] [] 70 [.bool false, .slice none 0 0] [isV (.int .i64 0), isV (.bool false), isV (.bool false), isZ (f.n.val / f.d.val), isV (.bool true), isV (.bool false), isV (.bool false)] (by rfl) alloc_whole ?_ ?_
                    · intro i hi hA aa wx hb hs hd
                      match i, hi, hA with
                      | 0, _, _ => exact .inl ⟨rfl, op_mv rfl (hs 8 rfl)⟩
                      | 1, _, _ => exact .inl ⟨rfl, pure_b (by decide) (⟨_, op_neqcE rfl (hd 0 rfl), rfl⟩)⟩
                      | 2, _, _ => exact .inl ⟨rfl, op_mv rfl (hd 1 rfl)⟩
                      | 3, _, _ => exact .inl ⟨⟨rfl, hd 2 rfl⟩, op_ldIz rfl rfl (hs 14 rfl) ((HE.out.to hb).get 6 rfl).a0⟩
                      | 4, _, _ => exact .inl ⟨⟨rfl, hd 2 rfl⟩, op_call1 rfl rfl Try.call22 (rvalid_z (f.n.val / f.d.val) l3 _ _ (hd 3 rfl))⟩
                      | 5, _, _ => exact .inl ⟨⟨rfl, hd 2 rfl⟩, ⟨_, op_not rfl (hd 4 rfl), rfl⟩⟩
                      | 6, _, _ => exact .inl ⟨rfl, ⟨_, op_pickF rfl (hd 2 rfl) (hd 5 rfl), rfl⟩⟩
                      | i + 7, h, _ => omega
                    · intro vs X14 hb hv hal hne
                      replace HB := Hd.mk (bel_then HB.out hb)
                      replace HE : Hd (Env X14 [⟨w.heap.size, 58, [rC f.n, rC f.d]⟩, ⟨w.heap.size + 1, 58, [rC g.n, rC g.d]⟩, ⟨g7, 58, [zC (pn f g), zC (pd f g)]⟩, ⟨g9, 58, [zC (rdn (vq (pn f g) (pd f g)) g), zC (rdd (vq (pn f g) (pd f g)) g)]⟩, ⟨g11, 58, [zC (an f g), zC (ad_ f g)]⟩, ⟨g12, 58, [zC (rsn (vq (an f g) (ad_ f g)) g), zC (rsd (vq (an f g) (ad_ f g)) g)]⟩, ⟨g14, 24, [zC (f.n.val / f.d.val)]⟩]) := ⟨HE.out.to hb⟩
                      have e109 : vs 109 = .bool false := hv 6 (by decide) rfl
                      simp only [putAll, List.foldl_cons, List.foldl_nil, Act.put, List.setIfInBounds_toArray, List.set_cons_succ, List.set_cons_zero, List.drop_succ_cons, List.drop_zero, e109]
                      generalize vs 103 = s103
                      generalize vs 104 = s104
                      generalize vs 105 = s105
                      generalize vs 106 = s106
                      generalize vs 107 = s107
                      generalize vs 108 = s108
                      clear hv hal hne hb
                      go_upto_region 15 with fail
                      refine wp_region_vs 7 [110, 111, 112, 113, 114, 115, 15] [2] [6] 38 [.bool false, .slice none 0 0] [isZ (f.n.val / f.d.val), isZ (f.n.val / f.d.val), isV (.pointer (some ⟨w.heap.size, 2, none⟩)), isL [rC f.d], isZ f.d.val, isZ ((f.n.val / f.d.val) * f.d.val), SP.any] (by kernel_rfl) (by kernel_rfl) (by kernel_rfl) (by rfl) alloc_Z (fun d v c a w h => by cases d <;> exact h) ?_ ?_
                      · intro i hi hA aa wx hb hs hd
                        match i, hi, hA with
                        | 0, _, _ => exact op_ldIz rfl rfl (hs 14 rfl) ((HE.out.to hb).get 6 rfl).a0
                        | 1, _, _ => exact op_call1 rfl rfl Try.call32 (rOf_got (f.n.val / f.d.val) _ _ (hd 0 rfl))
                        | 2, _, _ => exact ⟨_, op_faR1 rfl (hs 2 rfl), rfl⟩
                        | 3, _, _ => exact op_ldI rfl rfl (hd 2 rfl) ((HE.out.to hb).get 0 rfl).a2
                        | 4, _, _ => exact op_call1 rfl rfl Try.call32 (rOf_rz f.d HK2.out _ _ (hd 3 rfl))
                        | 5, _, _ => exact op_call2 rfl rfl Try.call31 (rTimes_got (f.n.val / f.d.val) f.d.val _ _ _ (hd 1 rfl) (hd 4 rfl) (by omega) (by omega))
                        | 6, _, h => cases h
                        | i + 7, h, _ => omega
                      · intro vs X15 hb hv hal hne
                        have HL0 := Hd.mk (HE.out.lt)
                        have HBW := HB
                        replace HB := Hd.mk (bel_then HB.out hb)
                        replace HE : Hd (Env X15 [⟨w.heap.size, 58, [rC f.n, rC f.d]⟩, ⟨w.heap.size + 1, 58, [rC g.n, rC g.d]⟩, ⟨g7, 58, [zC (pn f g), zC (pd f g)]⟩, ⟨g9, 58, [zC (rdn (vq (pn f g) (pd f g)) g), zC (rdd (vq (pn f g) (pd f g)) g)]⟩, ⟨g11, 58, [zC (an f g), zC (ad_ f g)]⟩, ⟨g12, 58, [zC (rsn (vq (an f g) (ad_ f g)) g), zC (rsd (vq (an f g) (ad_ f g)) g)]⟩, ⟨g14, 24, [zC (f.n.val / f.d.val)]⟩]) := ⟨HE.out.to hb⟩
                        obtain ⟨g15, e15, l15, b15⟩ : ∃ g, vs 15 = .pointer (some ⟨g, 0, none⟩) ∧ _ := hal 6 rfl
                        have t115 : (isZ ((f.n.val / f.d.val) * f.d.val)).p (vs 115) X15 := hv 5 (by decide) rfl
                        obtain ⟨u115, y115, e115, c115⟩ := isL_one.1 (isL_isZ.2 t115)
                        simp only [putAll, List.foldl_cons, List.foldl_nil, Act.put, List.setIfInBounds_toArray, List.set_cons_succ, List.set_cons_zero, List.drop_succ_cons, List.drop_zero, e15, e115]
                        generalize vs 110 = s110
                        generalize vs 111 = s111
                        generalize vs 112 = s112
                        generalize vs 113 = s113
                        generalize vs 114 = s114
                        replace HE : Hd (Env X15 [⟨w.heap.size, 58, [rC f.n, rC f.d]⟩, ⟨w.heap.size + 1, 58, [rC g.n, rC g.d]⟩, ⟨g7, 58, [zC (pn f g), zC (pd f g)]⟩, ⟨g9, 58, [zC (rdn (vq (pn f g) (pd f g)) g), zC (rdd (vq (pn f g) (pd f g)) g)]⟩, ⟨g11, 58, [zC (an f g), zC (ad_ f g)]⟩, ⟨g12, 58, [zC (rsn (vq (an f g) (ad_ f g)) g), zC (rsd (vq (an f g) (ad_ f g)) g)]⟩, ⟨g14, 24, [zC (f.n.val / f.d.val)]⟩, ⟨g15, 38, [aC]⟩]) := ⟨Env.addne (e := ⟨g15, 38, [aC]⟩) HE.out ⟨_, b15, cp1 (cpz _)⟩ (fun e' he => Nat.ne_of_lt (Nat.lt_of_lt_of_le (HL0.out e' he) l15))⟩
                        have G15 : Hd (w.heap.size ≤ g15) := ⟨Nat.le_trans HBW.out.size l15⟩
                        clear l15 b15
                        clear HL0 HBW e15
                        refine wpList_st rfl rfl rfl rfl rfl (sto_Z c115 (Slot.one _) (HE.out.get 7 rfl)) ?_
                        have HE' : Env (putAt X15 g15 0 u115 y115) [⟨w.heap.size, 58, [rC f.n, rC f.d]⟩, ⟨w.heap.size + 1, 58, [rC g.n, rC g.d]⟩, ⟨g7, 58, [zC (pn f g), zC (pd f g)]⟩, ⟨g9, 58, [zC (rdn (vq (pn f g) (pd f g)) g), zC (rdd (vq (pn f g) (pd f g)) g)]⟩, ⟨g11, 58, [zC (an f g), zC (ad_ f g)]⟩, ⟨g12, 58, [zC (rsn (vq (an f g) (ad_ f g)) g), zC (rsd (vq (an f g) (ad_ f g)) g)]⟩, ⟨g14, 24, [zC (f.n.val / f.d.val)]⟩, ⟨g15, 38, [zC ((f.n.val / f.d.val) * f.d.val)]⟩] := HE.out.put1 7 rfl c115
                        have HB' := below_putAt (o := 0) (u := u115) (v := y115) HB.out (show w.heap.size ≤ g15 from G15.out)
                        generalize putAt X15 g15 0 u115 y115 = X16 at *
                        replace HE := Hd.mk HE'
                        replace HB := Hd.mk HB'
                        clear HE' HB'
                        clear hv hal hne hb
                        go_upto_region 16 with fail
                        refine wp_region_vg 21 [116, 117, 118, 119, 120, 121, 122, 123, 124, 125, 126, 127, 128, 129, 130, 131, 132, 133, 134, 135, 136] [1, 5, 6, 8, 12, 16, 17, 18, 20] [] 70 [.bool false, .slice none 0 0] [isZ ((f.n.val / f.d.val) * f.d.val), isV (.pointer (some ⟨w.heap.size, 0, none⟩)), isL [rC f.n], isZ f.n.val, isV (.int .i64 (sgnv (((f.n.val / f.d.val) * f.d.val) - f.n.val))), isV (.bool true), isV (.bool true), isZ ((f.n.val / f.d.val) * f.d.val), isV (.pointer (some ⟨w.heap.size, 2, none⟩)), isL [rC f.d], isZ f.d.val, isZ (((f.n.val / f.d.val) * f.d.val) + f.d.val), isV (.pointer (some ⟨w.heap.size, 0, none⟩)), isL [rC f.n], isZ f.n.val, isV (.int .i64 (sgnv ((((f.n.val / f.d.val) * f.d.val) + f.d.val) - f.n.val))), isV (.bool true), isV (.bool true), isV (.bool true), isV (.bool true), isV (.bool true)] (by kernel_rfl) (by kernel_rfl) (by kernel_rfl) (by rfl) alloc_whole (fun d v c a w h => by cases d <;> exact h) ?_ ?_
                        · intro i hi hA aa wx hb hs hd
                          match i, hi, hA with
                          | 0, _, _ => exact .inl ⟨rfl, op_ldZz rfl rfl (hs 15 rfl) ((HE.out.to hb).get 7 rfl).a0⟩
                          | 1, _, _ => exact .inl ⟨rfl, ⟨_, op_faR0 rfl (hs 2 rfl), rfl⟩⟩
                          | 2, _, _ => exact .inl ⟨rfl, op_ldI rfl rfl (hd 1 rfl) ((HE.out.to hb).get 0 rfl).a0⟩
                          | 3, _, _ => exact .inl ⟨rfl, op_call1 rfl rfl Try.call32 (rOf_rz f.n HK1.out _ _ (hd 2 rfl))⟩
                          | 4, _, _ => exact .inl ⟨rfl, op_call2 rfl rfl Try.call34 (rOrd_got ((f.n.val / f.d.val) * f.d.val) f.n.val _ _ _ (hd 0 rfl) (hd 3 rfl) (by omega) (by omega))⟩
                          | 5, _, _ => exact .inl ⟨rfl, pure_b HLE.out (⟨_, op_leq0 rfl (hd 4 rfl), rfl⟩)⟩
                          | 6, _, _ => exact .inl ⟨rfl, op_mv rfl (hd 5 rfl)⟩
                          | 7, _, _ => exact .inl ⟨⟨rfl, hd 6 rfl⟩, op_ldZz rfl rfl (hs 15 rfl) ((HE.out.to hb).get 7 rfl).a0⟩
                          | 8, _, _ => exact .inl ⟨⟨rfl, hd 6 rfl⟩, ⟨_, op_faR1 rfl (hs 2 rfl), rfl⟩⟩
                          | 9, _, _ => exact .inl ⟨⟨rfl, hd 6 rfl⟩, op_ldI rfl rfl (hd 8 rfl) ((HE.out.to hb).get 0 rfl).a2⟩
                          | 10, _, _ => exact .inl ⟨⟨rfl, hd 6 rfl⟩, op_call1 rfl rfl Try.call32 (rOf_rz f.d HK2.out _ _ (hd 9 rfl))⟩
                          | 11, _, _ => exact .inl ⟨⟨rfl, hd 6 rfl⟩, op_call2 rfl rfl Try.call33 (rPlus_got ((f.n.val / f.d.val) * f.d.val) f.d.val _ _ _ (hd 7 rfl) (hd 10 rfl) (by omega) (by omega))⟩
                          | 12, _, _ => exact .inl ⟨⟨rfl, hd 6 rfl⟩, ⟨_, op_faR0 rfl (hs 2 rfl), rfl⟩⟩
                          | 13, _, _ => exact .inl ⟨⟨rfl, hd 6 rfl⟩, op_ldI rfl rfl (hd 12 rfl) ((HE.out.to hb).get 0 rfl).a0⟩
                          | 14, _, _ => exact .inl ⟨⟨rfl, hd 6 rfl⟩, op_call1 rfl rfl Try.call32 (rOf_rz f.n HK1.out _ _ (hd 13 rfl))⟩
                          | 15, _, _ => exact .inl ⟨⟨rfl, hd 6 rfl⟩, op_call2 rfl rfl Try.call34 (rOrd_got (((f.n.val / f.d.val) * f.d.val) + f.d.val) f.n.val _ _ _ (hd 11 rfl) (hd 14 rfl) (by omega) (by omega))⟩
                          | 16, _, _ => exact .inl ⟨⟨rfl, hd 6 rfl⟩, pure_b HGT.out (⟨_, op_gtr0 rfl (hd 15 rfl), rfl⟩)⟩
                          | 17, _, _ => exact .inl ⟨rfl, ⟨_, op_pickT rfl (hd 6 rfl) (hd 16 rfl), rfl⟩⟩
                          | 18, _, _ => exact .inl ⟨rfl, op_mv rfl (hd 17 rfl)⟩
                          | 19, _, _ => exact .inl ⟨⟨rfl, hd 18 rfl⟩, op_call0 rfl rfl Try.call17 (awake_got _)⟩
                          | 20, _, _ => exact .inl ⟨rfl, ⟨_, op_pickT rfl (hd 18 rfl) (hd 19 rfl), rfl⟩⟩
                          | i + 21, h, _ => omega
                        · intro vs X17 hb hv hal hne
                          replace HB := Hd.mk (bel_then HB.out hb)
                          replace HE : Hd (Env X17 [⟨w.heap.size, 58, [rC f.n, rC f.d]⟩, ⟨w.heap.size + 1, 58, [rC g.n, rC g.d]⟩, ⟨g7, 58, [zC (pn f g), zC (pd f g)]⟩, ⟨g9, 58, [zC (rdn (vq (pn f g) (pd f g)) g), zC (rdd (vq (pn f g) (pd f g)) g)]⟩, ⟨g11, 58, [zC (an f g), zC (ad_ f g)]⟩, ⟨g12, 58, [zC (rsn (vq (an f g) (ad_ f g)) g), zC (rsd (vq (an f g) (ad_ f g)) g)]⟩, ⟨g14, 24, [zC (f.n.val / f.d.val)]⟩, ⟨g15, 38, [zC ((f.n.val / f.d.val) * f.d.val)]⟩]) := ⟨HE.out.to hb⟩
                          have e136 : vs 136 = .bool true := hv 20 (by decide) rfl
                          simp only [putAll, List.foldl_cons, List.foldl_nil, Act.put, List.setIfInBounds_toArray, List.set_cons_succ, List.set_cons_zero, List.drop_succ_cons, List.drop_zero, e136]
                          generalize vs 116 = s116
                          generalize vs 117 = s117
                          generalize vs 118 = s118
                          generalize vs 119 = s119
                          generalize vs 120 = s120
                          generalize vs 121 = s121
                          generalize vs 122 = s122
                          generalize vs 123 = s123
                          generalize vs 124 = s124
                          generalize vs 125 = s125
                          generalize vs 126 = s126
                          generalize vs 127 = s127
                          generalize vs 128 = s128
                          generalize vs 129 = s129
                          generalize vs 130 = s130
                          generalize vs 131 = s131
                          generalize vs 132 = s132
                          generalize vs 133 = s133
                          generalize vs 134 = s134
                          generalize vs 135 = s135
                          clear hv hal hne hb
                          go_wp2_with fail
                          go_ret
                          exact ⟨_, rfl, HB.out, rfl⟩
  · have hno : (f.ok && g.ok) = false := by simpa using hok
    have HE2 : Hd (decide (ae f g = 2) = true) := ⟨decide_eq_true (if_neg hok)⟩
    clear hok
    by_cases hf : f.ok = true
    · have hg : g.ok = false := by rw [hf] at hno; simpa using hno
      have HOf := Hd.mk hf
      have HOg := Hd.mk hg
      clear hf hg hno
      go_enter Try.func11, Try.ntmps11
      go_upto_region 1 with fail
      obtain ⟨W0, hW0⟩ : ∃ W : World, W = (w.alloc (.cells #[u0, x0, y0, z0] 58)).alloc (.cells #[u1, x1, y1, z1] 58) := ⟨_, rfl⟩
      rw [← hW0]
      obtain ⟨he, hb⟩ := env_two (cp2 p0 q0) (cp2 p1 q1) hW0
      have HE := Hd.mk he
      have HB := Hd.mk hb
      clear he hb hW0
      refine wp_region_vd 8 [16, 17, 18, 19, 20, 21, 22, 23] [2, 3, 6, 7] [] 70 [.bool false, .slice none 0 0] [isL [rC f.n, rC f.d], isV (.bool true), isV (.bool false), isV (.bool false), isL [rC g.n, rC g.d], isV (.bool false), isV (.bool true), isV (.bool true)] (by rfl) alloc_whole ?_ ?_
      · intro i hi hA aa wx hb hs hd
        match i, hi, hA with
        | 0, _, _ => exact .inl ⟨rfl, op_ldR rfl rfl (hs 2 rfl) ((HE.out.to hb).get 0 rfl)⟩
        | 1, _, _ => exact .inl ⟨rfl, wp_b HOf.out (op_call1 rfl rfl Try.call50 (ValidRat_got f _ _ (hd 0 rfl)))⟩
        | 2, _, _ => exact .inl ⟨rfl, ⟨_, op_not rfl (hd 1 rfl), rfl⟩⟩
        | 3, _, _ => exact .inl ⟨rfl, op_mv rfl (hd 2 rfl)⟩
        | 4, _, _ => exact .inl ⟨⟨rfl, hd 3 rfl⟩, op_ldR rfl rfl (hs 3 rfl) ((HE.out.to hb).get 1 rfl)⟩
        | 5, _, _ => exact .inl ⟨⟨rfl, hd 3 rfl⟩, wp_b HOg.out (op_call1 rfl rfl Try.call50 (ValidRat_got g _ _ (hd 4 rfl)))⟩
        | 6, _, _ => exact .inl ⟨⟨rfl, hd 3 rfl⟩, ⟨_, op_not rfl (hd 5 rfl), rfl⟩⟩
        | 7, _, _ => exact .inl ⟨rfl, ⟨_, op_pickF rfl (hd 3 rfl) (hd 6 rfl), rfl⟩⟩
        | i + 8, h, _ => omega
      · intro vs X1 hb hv hal hne
        replace HB := Hd.mk (bel_then HB.out hb)
        replace HE : Hd (Env X1 [⟨w.heap.size, 58, [rC f.n, rC f.d]⟩, ⟨w.heap.size + 1, 58, [rC g.n, rC g.d]⟩]) := ⟨HE.out.to hb⟩
        have e23 : vs 23 = .bool true := hv 7 (by decide) rfl
        simp only [putAll, List.foldl_cons, List.foldl_nil, Act.put, List.setIfInBounds_toArray, List.set_cons_succ, List.set_cons_zero, List.drop_succ_cons, List.drop_zero, e23]
        generalize vs 16 = s16
        generalize vs 17 = s17
        generalize vs 18 = s18
        generalize vs 19 = s19
        generalize vs 20 = s20
        generalize vs 21 = s21
        generalize vs 22 = s22
        clear hv hal hne hb
        go_upto_region 2 with fail
        refine wp_region_vd 7 [25, 26, 27, 24, 28, 29, 5] [3, 4, 5] [6] 58 [.bool false, .slice none 0 0, .bool false, .slice none 0 0] [isL [rC f.n, rC f.d], isL [rC g.n, rC g.d], isP (isL [zC (an f g), zC (ad_ f g)]) (isV (.int .i64 (ae f g))), isP (isL [zC (an f g), zC (ad_ f g)]) (isV (.int .i64 (ae f g))), isL [zC (an f g), zC (ad_ f g)], isV (.int .i64 (ae f g)), SP.any] (by rfl) alloc_R ?_ ?_
        · intro i hi hA aa wx hb hs hd
          match i, hi, hA with
          | 0, _, _ => exact .inl ⟨rfl, op_ldR rfl rfl (hs 2 rfl) ((HE.out.to hb).get 0 rfl)⟩
          | 1, _, _ => exact .inl ⟨rfl, op_ldR rfl rfl (hs 3 rfl) ((HE.out.to hb).get 1 rfl)⟩
          | 2, _, _ => exact .inl ⟨rfl, op_call2 rfl rfl Try.call51 (Ratadd_f f g _ _ _ (hd 0 rfl) (hd 1 rfl))⟩
          | 3, _, _ => exact .inl ⟨rfl, op_mv rfl (hd 2 rfl)⟩
          | 4, _, _ => exact .inl ⟨rfl, op_fst rfl (hd 3 rfl)⟩
          | 5, _, _ => exact .inl ⟨rfl, op_snd rfl (hd 3 rfl)⟩
          | 6, _, h => cases h
          | i + 7, h, _ => omega
        · intro vs X2 hb hv hal hne
          have HL0 := Hd.mk (HE.out.lt)
          have HBW := HB
          replace HB := Hd.mk (bel_then HB.out hb)
          replace HE : Hd (Env X2 [⟨w.heap.size, 58, [rC f.n, rC f.d]⟩, ⟨w.heap.size + 1, 58, [rC g.n, rC g.d]⟩]) := ⟨HE.out.to hb⟩
          obtain ⟨g5, e5, l5, b5⟩ : ∃ g, vs 5 = .pointer (some ⟨g, 0, none⟩) ∧ _ := hal 6 rfl
          have t28 : (isL [zC (an f g), zC (ad_ f g)]).p (vs 28) X2 := hv 4 (by decide) rfl
          obtain ⟨u28, y28, p28, q28, e28, c28, k28⟩ := isL_two.1 t28
          have e29 : vs 29 = .int .i64 (ae f g) := hv 5 (by decide) rfl
          simp only [putAll, List.foldl_cons, List.foldl_nil, Act.put, List.setIfInBounds_toArray, List.set_cons_succ, List.set_cons_zero, List.drop_succ_cons, List.drop_zero, e5, e28, e29]
          generalize vs 25 = s25
          generalize vs 26 = s26
          generalize vs 27 = s27
          generalize vs 24 = s24
          replace HE : Hd (Env X2 [⟨w.heap.size, 58, [rC f.n, rC f.d]⟩, ⟨w.heap.size + 1, 58, [rC g.n, rC g.d]⟩, ⟨g5, 58, [aC, aC]⟩]) := ⟨Env.addne (e := ⟨g5, 58, [aC, aC]⟩) HE.out ⟨_, b5, cp2 (cpz _) (cpz _)⟩ (fun e' he => Nat.ne_of_lt (Nat.lt_of_lt_of_le (HL0.out e' he) l5))⟩
          have G5 : Hd (w.heap.size ≤ g5) := ⟨Nat.le_trans HBW.out.size l5⟩
          clear l5 b5
          clear HL0 HBW e5
          refine wpList_st rfl rfl rfl rfl rfl (sto_R c28 k28 (HE.out.get 2 rfl)) ?_
          have HE' : Env (putAt (putAt X2 g5 0 u28 y28) g5 2 p28 q28) [⟨w.heap.size, 58, [rC f.n, rC f.d]⟩, ⟨w.heap.size + 1, 58, [rC g.n, rC g.d]⟩, ⟨g5, 58, [zC (an f g), zC (ad_ f g)]⟩] := HE.out.put4 2 rfl c28 k28
          have HB' := below_put4 (u := u28) (v := y28) (u' := p28) (v' := q28) HB.out (show w.heap.size ≤ g5 from G5.out)
          generalize putAt (putAt X2 g5 0 u28 y28) g5 2 p28 q28 = X3 at *
          replace HE := Hd.mk HE'
          replace HB := Hd.mk HB'
          clear HE' HB'
          clear hv hal hne hb
          go_upto_region 3 with fail
          refine wp_region_vd 5 [30, 31, 32, 33, 34] [0, 1, 2, 4] [] 70 [.bool false, .slice none 0 0] [isV (.int .i64 (ae f g)), isV (.bool true), isV (.bool true), isV (.bool true), isV (.bool true)] (by rfl) alloc_whole ?_ ?_
          · intro i hi hA aa wx hb hs hd
            match i, hi, hA with
            | 0, _, _ => exact .inl ⟨rfl, op_mv rfl (hs 6 rfl)⟩
            | 1, _, _ => exact .inl ⟨rfl, pure_b HE2.out (⟨_, op_eqlcE rfl (hd 0 rfl), rfl⟩)⟩
            | 2, _, _ => exact .inl ⟨rfl, op_mv rfl (hd 1 rfl)⟩
            | 3, _, _ => exact .inl ⟨⟨rfl, hd 2 rfl⟩, op_call0 rfl rfl Try.call17 (awake_got _)⟩
            | 4, _, _ => exact .inl ⟨rfl, ⟨_, op_pickT rfl (hd 2 rfl) (hd 3 rfl), rfl⟩⟩
            | i + 5, h, _ => omega
          · intro vs X4 hb hv hal hne
            replace HB := Hd.mk (bel_then HB.out hb)
            replace HE : Hd (Env X4 [⟨w.heap.size, 58, [rC f.n, rC f.d]⟩, ⟨w.heap.size + 1, 58, [rC g.n, rC g.d]⟩, ⟨g5, 58, [zC (an f g), zC (ad_ f g)]⟩]) := ⟨HE.out.to hb⟩
            have e34 : vs 34 = .bool true := hv 4 (by decide) rfl
            simp only [putAll, List.foldl_cons, List.foldl_nil, Act.put, List.setIfInBounds_toArray, List.set_cons_succ, List.set_cons_zero, List.drop_succ_cons, List.drop_zero, e34]
            generalize vs 30 = s30
            generalize vs 31 = s31
            generalize vs 32 = s32
            generalize vs 33 = s33
            clear hv hal hne hb
            go_wp2_with fail
            go_ret
            exact ⟨_, rfl, HB.out, rfl⟩
    · have hf' : f.ok = false := by simpa using hf
      have HOf := Hd.mk hf'
      clear hf hf' hno
      go_enter Try.func11, Try.ntmps11
      go_upto_region 1 with fail
      obtain ⟨W0, hW0⟩ : ∃ W : World, W = (w.alloc (.cells #[u0, x0, y0, z0] 58)).alloc (.cells #[u1, x1, y1, z1] 58) := ⟨_, rfl⟩
      rw [← hW0]
      obtain ⟨he, hb⟩ := env_two (cp2 p0 q0) (cp2 p1 q1) hW0
      have HE := Hd.mk he
      have HB := Hd.mk hb
      clear he hb hW0
      refine wp_region_vd 8 [16, 17, 18, 19, 20, 21, 22, 23] [2, 3, 7] [] 70 [.bool false, .slice none 0 0] [isL [rC f.n, rC f.d], isV (.bool false), isV (.bool true), isV (.bool true), SP.any, SP.any, SP.any, isV (.bool true)] (by rfl) alloc_whole ?_ ?_
      · intro i hi hA aa wx hb hs hd
        match i, hi, hA with
        | 0, _, _ => exact .inl ⟨rfl, op_ldR rfl rfl (hs 2 rfl) ((HE.out.to hb).get 0 rfl)⟩
        | 1, _, _ => exact .inl ⟨rfl, wp_b HOf.out (op_call1 rfl rfl Try.call50 (ValidRat_got f _ _ (hd 0 rfl)))⟩
        | 2, _, _ => exact .inl ⟨rfl, ⟨_, op_not rfl (hd 1 rfl), rfl⟩⟩
        | 3, _, _ => exact .inl ⟨rfl, op_mv rfl (hd 2 rfl)⟩
        | 4, _, _ => exact .inr ⟨⟨rfl, hd 3 rfl⟩, trivial⟩
        | 5, _, _ => exact .inr ⟨⟨rfl, hd 3 rfl⟩, trivial⟩
        | 6, _, _ => exact .inr ⟨⟨rfl, hd 3 rfl⟩, trivial⟩
        | 7, _, _ => exact .inl ⟨rfl, ⟨_, op_pickT rfl (hd 3 rfl) rfl, rfl⟩⟩
        | i + 8, h, _ => omega
      · intro vs X1 hb hv hal hne
        replace HB := Hd.mk (bel_then HB.out hb)
        replace HE : Hd (Env X1 [⟨w.heap.size, 58, [rC f.n, rC f.d]⟩, ⟨w.heap.size + 1, 58, [rC g.n, rC g.d]⟩]) := ⟨HE.out.to hb⟩
        have e23 : vs 23 = .bool true := hv 7 (by decide) rfl
        simp only [putAll, List.foldl_cons, List.foldl_nil, Act.put, List.setIfInBounds_toArray, List.set_cons_succ, List.set_cons_zero, List.drop_succ_cons, List.drop_zero, e23]
        generalize vs 16 = s16
        generalize vs 17 = s17
        generalize vs 18 = s18
        generalize vs 19 = s19
        generalize vs 20 = s20
        generalize vs 21 = s21
        generalize vs 22 = s22
        clear hv hal hne hb
        go_upto_region 2 with fail
        refine wp_region_vd 7 [25, 26, 27, 24, 28, 29, 5] [3, 4, 5] [6] 58 [.bool false, .slice none 0 0, .bool false, .slice none 0 0] [isL [rC f.n, rC f.d], isL [rC g.n, rC g.d], isP (isL [zC (an f g), zC (ad_ f g)]) (isV (.int .i64 (ae f g))), isP (isL [zC (an f g), zC (ad_ f g)]) (isV (.int .i64 (ae f g))), isL [zC (an f g), zC (ad_ f g)], isV (.int .i64 (ae f g)), SP.any] (by rfl) alloc_R ?_ ?_
        · intro i hi hA aa wx hb hs hd
          match i, hi, hA with
          | 0, _, _ => exact .inl ⟨rfl, op_ldR rfl rfl (hs 2 rfl) ((HE.out.to hb).get 0 rfl)⟩
          | 1, _, _ => exact .inl ⟨rfl, op_ldR rfl rfl (hs 3 rfl) ((HE.out.to hb).get 1 rfl)⟩
          | 2, _, _ => exact .inl ⟨rfl, op_call2 rfl rfl Try.call51 (Ratadd_f f g _ _ _ (hd 0 rfl) (hd 1 rfl))⟩
          | 3, _, _ => exact .inl ⟨rfl, op_mv rfl (hd 2 rfl)⟩
          | 4, _, _ => exact .inl ⟨rfl, op_fst rfl (hd 3 rfl)⟩
          | 5, _, _ => exact .inl ⟨rfl, op_snd rfl (hd 3 rfl)⟩
          | 6, _, h => cases h
          | i + 7, h, _ => omega
        · intro vs X2 hb hv hal hne
          have HL0 := Hd.mk (HE.out.lt)
          have HBW := HB
          replace HB := Hd.mk (bel_then HB.out hb)
          replace HE : Hd (Env X2 [⟨w.heap.size, 58, [rC f.n, rC f.d]⟩, ⟨w.heap.size + 1, 58, [rC g.n, rC g.d]⟩]) := ⟨HE.out.to hb⟩
          obtain ⟨g5, e5, l5, b5⟩ : ∃ g, vs 5 = .pointer (some ⟨g, 0, none⟩) ∧ _ := hal 6 rfl
          have t28 : (isL [zC (an f g), zC (ad_ f g)]).p (vs 28) X2 := hv 4 (by decide) rfl
          obtain ⟨u28, y28, p28, q28, e28, c28, k28⟩ := isL_two.1 t28
          have e29 : vs 29 = .int .i64 (ae f g) := hv 5 (by decide) rfl
          simp only [putAll, List.foldl_cons, List.foldl_nil, Act.put, List.setIfInBounds_toArray, List.set_cons_succ, List.set_cons_zero, List.drop_succ_cons, List.drop_zero, e5, e28, e29]
          generalize vs 25 = s25
          generalize vs 26 = s26
          generalize vs 27 = s27
          generalize vs 24 = s24
          replace HE : Hd (Env X2 [⟨w.heap.size, 58, [rC f.n, rC f.d]⟩, ⟨w.heap.size + 1, 58, [rC g.n, rC g.d]⟩, ⟨g5, 58, [aC, aC]⟩]) := ⟨Env.addne (e := ⟨g5, 58, [aC, aC]⟩) HE.out ⟨_, b5, cp2 (cpz _) (cpz _)⟩ (fun e' he => Nat.ne_of_lt (Nat.lt_of_lt_of_le (HL0.out e' he) l5))⟩
          have G5 : Hd (w.heap.size ≤ g5) := ⟨Nat.le_trans HBW.out.size l5⟩
          clear l5 b5
          clear HL0 HBW e5
          refine wpList_st rfl rfl rfl rfl rfl (sto_R c28 k28 (HE.out.get 2 rfl)) ?_
          have HE' : Env (putAt (putAt X2 g5 0 u28 y28) g5 2 p28 q28) [⟨w.heap.size, 58, [rC f.n, rC f.d]⟩, ⟨w.heap.size + 1, 58, [rC g.n, rC g.d]⟩, ⟨g5, 58, [zC (an f g), zC (ad_ f g)]⟩] := HE.out.put4 2 rfl c28 k28
          have HB' := below_put4 (u := u28) (v := y28) (u' := p28) (v' := q28) HB.out (show w.heap.size ≤ g5 from G5.out)
          generalize putAt (putAt X2 g5 0 u28 y28) g5 2 p28 q28 = X3 at *
          replace HE := Hd.mk HE'
          replace HB := Hd.mk HB'
          clear HE' HB'
          clear hv hal hne hb
          go_upto_region 3 with fail
          refine wp_region_vd 5 [30, 31, 32, 33, 34] [0, 1, 2, 4] [] 70 [.bool false, .slice none 0 0] [isV (.int .i64 (ae f g)), isV (.bool true), isV (.bool true), isV (.bool true), isV (.bool true)] (by rfl) alloc_whole ?_ ?_
          · intro i hi hA aa wx hb hs hd
            match i, hi, hA with
            | 0, _, _ => exact .inl ⟨rfl, op_mv rfl (hs 6 rfl)⟩
            | 1, _, _ => exact .inl ⟨rfl, pure_b HE2.out (⟨_, op_eqlcE rfl (hd 0 rfl), rfl⟩)⟩
            | 2, _, _ => exact .inl ⟨rfl, op_mv rfl (hd 1 rfl)⟩
            | 3, _, _ => exact .inl ⟨⟨rfl, hd 2 rfl⟩, op_call0 rfl rfl Try.call17 (awake_got _)⟩
            | 4, _, _ => exact .inl ⟨rfl, ⟨_, op_pickT rfl (hd 2 rfl) (hd 3 rfl), rfl⟩⟩
            | i + 5, h, _ => omega
          · intro vs X4 hb hv hal hne
            replace HB := Hd.mk (bel_then HB.out hb)
            replace HE : Hd (Env X4 [⟨w.heap.size, 58, [rC f.n, rC f.d]⟩, ⟨w.heap.size + 1, 58, [rC g.n, rC g.d]⟩, ⟨g5, 58, [zC (an f g), zC (ad_ f g)]⟩]) := ⟨HE.out.to hb⟩
            have e34 : vs 34 = .bool true := hv 4 (by decide) rfl
            simp only [putAll, List.foldl_cons, List.foldl_nil, Act.put, List.setIfInBounds_toArray, List.set_cons_succ, List.set_cons_zero, List.drop_succ_cons, List.drop_zero, e34]
            generalize vs 30 = s30
            generalize vs 31 = s31
            generalize vs 32 = s32
            generalize vs 33 = s33
            clear hv hal hne hb
            go_wp2_with fail
            go_ret
            exact ⟨_, rfl, HB.out, rfl⟩
end Go.Proofs.Ytcjcpfafalkceaa
