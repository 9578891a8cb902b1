/- Part 5 of the texts behind this claim. -/
import Derived.Lib.ItoaNum
import Derived.Test.YtdfhhceboacdcaaDoorDq2
import Derived.Test.YtdfhhceboacdcaaDoorDq4
set_option linter.unusedVariables false
namespace Go.Proofs.YtdfhhceboacdcaaDoor
open Go.RowKit
theorem blk_new {W : World} {n : Nat} (h : n = W.heap.size) (cs : List Value) (t : TypeId) : Blk (W.alloc (.cells cs.toArray t)) n t cs := by
 subst h; exact heap_alloc_new _ _
theorem raws_two {x y : Raw} {g : Nat} {t : TypeId} {w w' : World} (hb : Below w.heap.size w w') (hx : x.at_ w) (hy : y.at_ w) (h : Blk w' g t [.bool x.neg, .slice x.A x.xs.length x.c, .bool y.neg, .slice y.A y.xs.length y.c]) : RawsAt [x, y] g w' := by
 intro i r hr
 match i, hr with
 | 0, hr =>
  simp at hr; subst hr; exact ⟨h.cell 0, h.cell 1, Raw.at_to hx hb⟩
 | 1, hr =>
  simp at hr; subst hr; exact ⟨h.cell 2, h.cell 3, Raw.at_to hy hb⟩
 | i + 2, hr => simp at hr
theorem raws_one {x : Raw} {g : Nat} {t : TypeId} {w w' : World} (hb : Below w.heap.size w w') (hx : x.at_ w) (h : Blk w' g t [.bool x.neg, .slice x.A x.xs.length x.c]) : RawsAt [x] g w' := by
 intro i r hr
 match i, hr with
 | 0, hr =>
  simp at hr; subst hr; exact ⟨h.cell 0, h.cell 1, Raw.at_to hx hb⟩
 | i + 1, hr => simp at hr
theorem all_two (x y : Raw) : [x, y].all Raw.ok = (x.ok && y.ok) := by simp
theorem all_one (x : Raw) : [x].all Raw.ok = x.ok := by simp
theorem and_ok {x y : Raw} (h : (x.ok && y.ok) = true) : x.ok = true ∧ y.ok = true := by simpa using h
set_option maxHeartbeats 1000000 in
set_option maxRecDepth 100000 in
theorem two_mul (x y : Raw) (w : World) (hx : x.at_ w) (hy : y.at_ w) :
  Calls Tryd.prog 42 #[x.v, y.v, .func (.func 43) #[] #[]] w (RetZE (opz x y (x.val * y.val)) (ope x y (x.val * y.val)) w) := by
 unfold opz ope; have HV := Hd.mk (fun g W (h : Below w.heap.size w W) (hB : Blk W g 24 [.bool x.neg, .slice x.A x.xs.length x.c, .bool y.neg, .slice y.A y.xs.length y.c]) => valid_calls [x, y] g 2 W (raws_two h hx hy hB) rfl (Nat.le_refl _)); rw [all_two] at HV; by_cases hok : (x.ok && y.ok) = true
 ·obtain ⟨hxo, hyo⟩ := and_ok hok; rw [hok] at HV; have hlx := Raw.ok_len hxo hx.2.1; have hly := Raw.ok_len hyo hy.2.1; have HP := Hd.mk (fun W (hW : Below w.heap.size w W) => wmul_calls x.val y.val x.A x.c y.A y.c W ((Raw.nn hxo hx).to hW) ((Raw.nn hyo hy).to hW) (by omega) (by omega)); rw [← (Raw.num hxo hx.2.1).1, ← (Raw.num hyo hy.2.1).1] at HP; obtain ⟨z, hz⟩ : ∃ z, z = x.val * y.val := ⟨_, rfl⟩; have hzl : ln z.natAbs ≤ 1073741824 := by rw [hz]; rw [Int.natAbs_mul]; exact Nat.le_trans (ln_mul _ _) (by omega)
  rw [← hz] at HP ⊢; rw [if_pos hok, if_pos hok]; unfold Raw.v at HP ⊢; clear hx hy hz hxo hyo hok hlx hly; obtain ⟨b1, A1, c1, xs⟩ := x; obtain ⟨b2, A2, c2, ys⟩ := y; simp only at HP HV ⊢; obtain ⟨n1, hn1⟩ : ∃ n, n = xs.length := ⟨_, rfl⟩; obtain ⟨n2, hn2⟩ : ∃ n, n = ys.length := ⟨_, rfl⟩; rw [← hn1, ← hn2] at HP HV ⊢; clear hn1 hn2; go_enter Tryd.func42, Tryd.ntmps42
  go_wp2_with fail
  obtain ⟨W0, hW0⟩ : ∃ W : World, W = ((w.alloc (.cells #[.bool b1, .slice A1 n1 c1] 24)).alloc (.cells #[.bool b2, .slice A2 n2 c2] 24)).alloc (.cells #[.bool false, .slice none 0 0] 24) := ⟨_, rfl⟩; rw [← hW0]; have HSZ : Hd (w.heap.size + 1 + 1 + 1 = W0.heap.size) := ⟨by rw [hW0]; simp⟩; obtain ⟨hB0, hB1, hB2, hBW⟩ := boxes3 hW0; have q0 := hB0.c0; have q1 := hB0.c1; have q2 := hB1.c0; have q3 := hB1.c1; have g0 := hB2.c0; have g1 := hB2.c1; have u0 := hB2.f0; have u1 := hB2.f1; have Q0 := Hd.mk hB0; have Q1 := Hd.mk hB1; have QR := Hd.mk hB2; have HW := Hd.mk hBW; have HB : Hd (Below W0.heap.size W0 W0) := ⟨Below.refl _ _⟩; clear hB0 hB1 hB2 hBW hW0; refine (HV.out _ _ (bel_then HW.out (by repeat (first | exact HB.out | exact Below.refl _ _ | refine below_alloc ?_ _ | refine below_drewN ?_ _ | refine below_drew ?_ | refine below_set ?_ (by first | exact Nat.le_refl _ | omega | (simp; done) | (simp; omega)) _))) (blk_new HSZ.out _ _)).mono ?_; rintro e w1 ⟨rfl, hb1⟩; have HB' : Hd (Below W0.heap.size W0 _) := ⟨bel_then (by repeat (first | exact HB.out | exact Below.refl _ _ | refine below_alloc ?_ _ | refine below_drewN ?_ _ | refine below_drew ?_ | refine below_set ?_ (by first | exact Nat.le_refl _ | omega | (simp; done) | (simp; omega)) _)) hb1⟩; clear HB; have HB := HB'; clear HB' hb1; replace q0 := (Q0.out.to HB.out).c0; replace q1 := (Q0.out.to HB.out).c1; replace q2 := (Q1.out.to HB.out).c0; replace q3 := (Q1.out.to HB.out).c1; replace g0 := (QR.out.to HB.out).c0; replace g1 := (QR.out.to HB.out).c1; replace u0 := (QR.out.to HB.out).f0; replace u1 := (QR.out.to HB.out).f1; go_wp2_with fail
  go_region_held3 (fun w' => w'.cell? ⟨w.heap.size, 0, none⟩ = some (.bool b1) ∧ w'.cell? ⟨w.heap.size, 1, none⟩ = some (.slice A1 n1 c1) ∧ w'.cell? ⟨w.heap.size + 1, 0, none⟩ = some (.bool b2) ∧ w'.cell? ⟨w.heap.size + 1, 1, none⟩ = some (.slice A2 n2 c2)) (first | exact ⟨q0, q1, q2, q3⟩ | (repeat' apply And.intro) <;> (first | exact q0 | exact q1 | exact q2 | exact q3 | (go_keep; done) | (rw [World.cell?_setCell_far _ _ _ _ (by first | (simp; done) | (simp; omega)), World.cell?_setCell_far _ _ _ _ (by first | (simp; done) | (simp; omega))]; first | exact q0 | exact q1 | exact q2 | exact q3)))
   (first | (go_at_call 26; refine (of_calls _ _ _ _ _).mono ?_; rintro e w3 ⟨rfl, hb3⟩; have HB' : Hd (Below W0.heap.size W0 _) := ⟨bel_then (by repeat (first | exact HB.out | exact Below.refl _ _ | refine below_alloc ?_ _ | refine below_drewN ?_ _ | refine below_drew ?_ | refine below_set ?_ (by first | exact Nat.le_refl _ | omega | (simp; done) | (simp; omega)) _)) hb3⟩; clear HB; have HB := HB'; clear HB' hb3; replace q0 := (Q0.out.to HB.out).c0; replace q1 := (Q0.out.to HB.out).c1; replace q2 := (Q1.out.to HB.out).c0; replace q3 := (Q1.out.to HB.out).c1; replace g0 := (QR.out.to HB.out).c0; replace g1 := (QR.out.to HB.out).c1; replace u0 := (QR.out.to HB.out).f0; replace u1 := (QR.out.to HB.out).f1) | (go_at_call 43; refine (HP.out _ (bel_then HW.out (by repeat (first | exact HB.out | exact Below.refl _ _ | refine below_alloc ?_ _ | refine below_drewN ?_ _ | refine below_drew ?_ | refine below_set ?_ (by first | exact Nat.le_refl _ | omega | (simp; done) | (simp; omega)) _)))).mono ?_; rintro e w4 ⟨A3, c3, rfl, hn3, hb4⟩; have HN3 := Hd.mk hn3; clear hn3; have HB' : Hd (Below W0.heap.size W0 _) := ⟨bel_then (by repeat (first | exact HB.out | exact Below.refl _ _ | refine below_alloc ?_ _ | refine below_drewN ?_ _ | refine below_drew ?_ | refine below_set ?_ (by first | exact Nat.le_refl _ | omega | (simp; done) | (simp; omega)) _)) hb4⟩; clear HB; have HB := HB'; clear HB' hb4; replace q0 := (Q0.out.to HB.out).c0; replace q1 := (Q0.out.to HB.out).c1; replace q2 := (Q1.out.to HB.out).c0; replace q3 := (Q1.out.to HB.out).c1; replace g0 := (QR.out.to HB.out).c0; replace g1 := (QR.out.to HB.out).c1; replace u0 := (QR.out.to HB.out).f0; replace u1 := (QR.out.to HB.out).f1) | (go_at_call 57; refine (fits_calls z A3 c3 _ HN3.out hzl).mono ?_; rintro e w5 ⟨A4, c4, rfl, hn4, hb5⟩; have HN4 := Hd.mk hn4; clear hn4; have HB' : Hd (Below W0.heap.size W0 _) := ⟨bel_then (by repeat (first | exact HB.out | exact Below.refl _ _ | refine below_alloc ?_ _ | refine below_drewN ?_ _ | refine below_drew ?_ | refine below_set ?_ (by first | exact Nat.le_refl _ | omega | (simp; done) | (simp; omega)) _)) hb5⟩; clear HB; have HB := HB'; clear HB' hb5; replace q0 := (Q0.out.to HB.out).c0; replace q1 := (Q0.out.to HB.out).c1; replace q2 := (Q1.out.to HB.out).c0; replace q3 := (Q1.out.to HB.out).c1; replace g0 := (QR.out.to HB.out).c0; replace g1 := (QR.out.to HB.out).c1; replace u0 := (QR.out.to HB.out).f0; replace u1 := (QR.out.to HB.out).f1))
  go_wp2_with fail
  obtain ⟨k0, k1, k2⟩ := two_set g0 g1 (.bool (decide (fitz z < 0))) (.slice A4 (ln (fitz z).natAbs) c4); refine bodyPost_ret (v := .tuple #[.agg #[.bool (decide (fitz z < 0)), .slice A4 (ln (fitz z).natAbs) c4], .int .i64 (fite z)]) (by simp [results, Tryd.results42, go_sem, k0, k1]) rfl ?_; exact ⟨A4, c4, rfl, (HN4.out.set_ g0 (by intro t; simp) _).set_ k2 (by intro t; simp) _, (by repeat (first | exact bel_then HW.out HB.out | refine below_set ?_ (by first | exact Nat.le_refl _ | omega | (simp; done) | (simp; omega)) _ | refine below_alloc ?_ _ | refine below_drewN ?_ _ | refine below_drew ?_))⟩
 have hno : (x.ok && y.ok) = false := by simpa using hok
 rw [hno] at HV; rw [if_neg hok, if_neg hok]; unfold Raw.v; clear hx hy hok hno; obtain ⟨b1, A1, c1, xs⟩ := x; obtain ⟨b2, A2, c2, ys⟩ := y; simp only at HV ⊢; obtain ⟨n1, hn1⟩ : ∃ n, n = xs.length := ⟨_, rfl⟩; obtain ⟨n2, hn2⟩ : ∃ n, n = ys.length := ⟨_, rfl⟩; rw [← hn1, ← hn2] at HV ⊢; clear hn1 hn2; go_enter Tryd.func42, Tryd.ntmps42
 go_wp2_with fail
 obtain ⟨W0, hW0⟩ : ∃ W : World, W = ((w.alloc (.cells #[.bool b1, .slice A1 n1 c1] 24)).alloc (.cells #[.bool b2, .slice A2 n2 c2] 24)).alloc (.cells #[.bool false, .slice none 0 0] 24) := ⟨_, rfl⟩; rw [← hW0]; have HSZ : Hd (w.heap.size + 1 + 1 + 1 = W0.heap.size) := ⟨by rw [hW0]; simp⟩; obtain ⟨hB0, hB1, hB2, hBW⟩ := boxes3 hW0; have q0 := hB0.c0; have q1 := hB0.c1; have q2 := hB1.c0; have q3 := hB1.c1; have g0 := hB2.c0; have g1 := hB2.c1; have u0 := hB2.f0; have u1 := hB2.f1; have Q0 := Hd.mk hB0; have Q1 := Hd.mk hB1; have QR := Hd.mk hB2; have HW := Hd.mk hBW; have HB : Hd (Below W0.heap.size W0 W0) := ⟨Below.refl _ _⟩; clear hB0 hB1 hB2 hBW hW0; refine (HV.out _ _ (bel_then HW.out (by repeat (first | exact HB.out | exact Below.refl _ _ | refine below_alloc ?_ _ | refine below_drewN ?_ _ | refine below_drew ?_ | refine below_set ?_ (by first | exact Nat.le_refl _ | omega | (simp; done) | (simp; omega)) _))) (blk_new HSZ.out _ _)).mono ?_; rintro e w1 ⟨rfl, hb1⟩; have HB' : Hd (Below W0.heap.size W0 _) := ⟨bel_then (by repeat (first | exact HB.out | exact Below.refl _ _ | refine below_alloc ?_ _ | refine below_drewN ?_ _ | refine below_drew ?_ | refine below_set ?_ (by first | exact Nat.le_refl _ | omega | (simp; done) | (simp; omega)) _)) hb1⟩; clear HB; have HB := HB'; clear HB' hb1; replace q0 := (Q0.out.to HB.out).c0; replace q1 := (Q0.out.to HB.out).c1; replace q2 := (Q1.out.to HB.out).c0; replace q3 := (Q1.out.to HB.out).c1; replace g0 := (QR.out.to HB.out).c0; replace g1 := (QR.out.to HB.out).c1; replace u0 := (QR.out.to HB.out).f0; replace u1 := (QR.out.to HB.out).f1; go_wp2_with fail
 obtain ⟨k0, k1, k2⟩ := two_set g0 g1 (.bool false) (.slice none 0 0); refine bodyPost_ret (v := .tuple #[.agg #[.bool false, .slice none 0 0], .int .i64 2]) (by simp [results, Tryd.results42, go_sem, k0, k1]) rfl ?_; exact ⟨none, 0, by rw [show ln (Int.natAbs 0) = 0 from ln_zero]; rfl, NN.nil _ _ _ (by omega), (by repeat (first | exact bel_then HW.out HB.out | refine below_set ?_ (by first | exact Nat.le_refl _ | omega | (simp; done) | (simp; omega)) _ | refine below_alloc ?_ _ | refine below_drewN ?_ _ | refine below_drew ?_))⟩
set_option maxRecDepth 100000 in
theorem Mul_calls (x y : Raw) (w : World) (hx : x.at_ w) (hy : y.at_ w) :
  Calls Tryd.prog 24 #[x.v, y.v] w (RetZE (opz x y (x.val * y.val)) (ope x y (x.val * y.val)) w) := by
 have HT := Hd.mk (fun W (hW : Below w.heap.size w W) => two_mul x y W (Raw.at_to hx hW) (Raw.at_to hy hW)); obtain ⟨z, hz⟩ : ∃ z, z = opz x y (x.val * y.val) := ⟨_, rfl⟩; obtain ⟨ze, hze⟩ : ∃ z, z = ope x y (x.val * y.val) := ⟨_, rfl⟩; rw [← hz, ← hze] at HT ⊢; clear hz hze hx hy; unfold Raw.v at HT ⊢; obtain ⟨b1, A1, c1, xs⟩ := x; obtain ⟨b2, A2, c2, ys⟩ := y; simp only at HT ⊢; obtain ⟨n1, hn1⟩ : ∃ n, n = xs.length := ⟨_, rfl⟩; obtain ⟨n2, hn2⟩ : ∃ n, n = ys.length := ⟨_, rfl⟩; rw [← hn1, ← hn2] at HT ⊢; clear hn1 hn2; go_enter Tryd.func24, Tryd.ntmps24
 go_wp2_with fail
 obtain ⟨W0, hW0⟩ : ∃ W : World, W = ((w.alloc (.cells #[.bool b1, .slice A1 n1 c1] 24)).alloc (.cells #[.bool b2, .slice A2 n2 c2] 24)).alloc (.cells #[.bool false, .slice none 0 0] 24) := ⟨_, rfl⟩; rw [← hW0]; have HSZ : Hd (w.heap.size + 1 + 1 + 1 = W0.heap.size) := ⟨by rw [hW0]; simp⟩; obtain ⟨hB0, hB1, hB2, hBW⟩ := boxes3 hW0; have q0 := hB0.c0; have q1 := hB0.c1; have q2 := hB1.c0; have q3 := hB1.c1; have g0 := hB2.c0; have g1 := hB2.c1; have u0 := hB2.f0; have u1 := hB2.f1; have Q0 := Hd.mk hB0; have Q1 := Hd.mk hB1; have QR := Hd.mk hB2; have HW := Hd.mk hBW; have HB : Hd (Below W0.heap.size W0 W0) := ⟨Below.refl _ _⟩; clear hB0 hB1 hB2 hBW hW0; refine (HT.out _ HW.out).mono ?_; rintro e w1 ⟨A4, c4, rfl, hn4, hb1⟩; have HN4 := Hd.mk hn4; clear hn4; have HB' : Hd (Below W0.heap.size W0 _) := ⟨bel_then (by repeat (first | exact HB.out | exact Below.refl _ _ | refine below_alloc ?_ _ | refine below_drewN ?_ _ | refine below_drew ?_ | refine below_set ?_ (by first | exact Nat.le_refl _ | omega | (simp; done) | (simp; omega)) _)) hb1⟩; clear HB; have HB := HB'; clear HB' hb1; replace q0 := (Q0.out.to HB.out).c0; replace q1 := (Q0.out.to HB.out).c1; replace q2 := (Q1.out.to HB.out).c0; replace q3 := (Q1.out.to HB.out).c1; replace g0 := (QR.out.to HB.out).c0; replace g1 := (QR.out.to HB.out).c1; replace u0 := (QR.out.to HB.out).f0; replace u1 := (QR.out.to HB.out).f1; go_wp2_with fail
 obtain ⟨k0, k1, k2⟩ := two_set g0 g1 (.bool (decide (z < 0))) (.slice A4 (ln z.natAbs) c4); refine bodyPost_ret (v := .tuple #[.agg #[.bool (decide (z < 0)), .slice A4 (ln z.natAbs) c4], .int .i64 ze]) (by simp [results, Tryd.results24, go_sem, k0, k1]) rfl ?_; exact ⟨A4, c4, rfl, (HN4.out.set_ g0 (by intro t; simp) _).set_ k2 (by intro t; simp) _, (by repeat (first | exact bel_then HW.out HB.out | refine below_set ?_ (by first | exact Nat.le_refl _ | omega | (simp; done) | (simp; omega)) _ | refine below_alloc ?_ _ | refine below_drewN ?_ _ | refine below_drew ?_))⟩
theorem dig_getD (n k : Nat) : (dig n).getD k 0 = n / B ^ k % B := by
 induction k generalizing n with
 | zero =>
  by_cases h : n = 0
  ·subst h; rw [dig_zero]; simp
  rw [dig_pos h]; simp
 | succ k ih =>
  by_cases h : n = 0
  ·subst h; rw [dig_zero]; simp
  rw [dig_pos h]; show (dig (n / B)).getD k 0 = _; rw [ih, Nat.div_div_eq_div_mul, Nat.pow_succ, Nat.mul_comm (B ^ k) B]
theorem dig_take_succ {n k : Nat} (h : k < ln n) : (dig n).take (k + 1) = (dig n).take k ++ [n / B ^ k % 4294967296] := by
 rw [List.take_succ_eq_append_getElem h]; congr 2
 have := dig_getD n k; simp only [List.getD_eq_getElem?_getD, List.getElem?_eq_getElem (show k < (dig n).length from h)] at this; exact this
theorem div_pos_iff {n k : Nat} : 0 < n / B ^ k ↔ k < ln n := by
 constructor
 ·intro h; rcases Nat.lt_or_ge k (ln n) with h1 | h1
  ·exact h1
  have := lt_pow_ln n; have h2 : B ^ ln n ≤ B ^ k := Nat.pow_le_pow_right B_pos h1; rw [Nat.div_eq_of_lt (by omega)] at h; omega
 intro h; exact Nat.div_pos (pow_le_of_ln h) (Nat.pow_pos B_pos)
set_option maxRecDepth 100000 in
theorem natural_calls (n : Nat) (hn : ln n ≤ 2) (w : World) :
  Calls Tryd.prog 18 #[.int .u64 (n : Int)] w (RetN n w) := by
 obtain ⟨i0, hi, hz0, hz1, hz2⟩ := info_parts Tryd.info_word; have HN2 := Hd.mk hn; clear hn; go_enter Tryd.func18, Tryd.ntmps18
 go_wp2
 go_loopw [0, 3] (fun s0 s3 wr => ∃ (v : Value) (k : Nat), v = s3 ∧ k ≤ ln n ∧ s0 = .int .u64 ((n / B ^ k : Nat) : Int) ∧ wr.ownsRow w.heap.size 37 1 v k (cells ((dig n).take k)) ∧ Below w.heap.size w wr) (fun s0 _ _ => (intOf s0).toNat)
 case atStart => exact ⟨_, 0, rfl, Nat.zero_le _, by simp, ⟨rfl, .inl ⟨rfl, rfl⟩⟩, Below.refl _ _⟩
 case round =>
  obtain ⟨v, k, rfl, hk, rfl, hown, hbel⟩ := hrel; have HO := Hd.mk hown; have HB := Hd.mk hbel; clear hown hbel; obtain ⟨q, hq⟩ : ∃ q, q = n / B ^ k := ⟨_, rfl⟩; rw [← hq]
  have hql : q ≤ 18446744073709551615 := by
   have h1 := lt_pow_ln n; have h2 : B ^ ln n ≤ B ^ 2 := Nat.pow_le_pow_right B_pos HN2.out; have h3 : B ^ 2 = 18446744073709551616 := by decide
   have h4 : q ≤ n := by rw [hq]; exact Nat.div_le_self _ _
   omega
  by_cases hlt : k < ln n
  ·have hq0 : 0 < q := by rw [hq]; exact div_pos_iff.2 hlt
   obtain ⟨x, hx⟩ : ∃ x : Nat, x = q % 4294967296 := ⟨_, rfl⟩; have hx' : ((q : Nat) : Int) % 4294967296 = (x : Int) := by rw [hx]; omega
   have hts := dig_take_succ hlt; rw [← hq, ← hx] at hts; have HTS := Hd.mk hts; obtain ⟨q2, hq2⟩ : ∃ q2 : Nat, q2 = q / 4294967296 := ⟨_, rfl⟩; have hq2' : ((q : Nat) : Int) / 4294967296 = (q2 : Int) := by rw [hq2]; omega
   have hq3 : q2 = n / B ^ (k + 1) := by rw [hq2, hq, Nat.div_div_eq_div_mul, Nat.pow_succ]; rfl
   have HQ3 := Hd.mk hq3; have hlt2 : q2 < q := by rw [hq2]; exact Nat.div_lt_self hq0 (by decide)
   clear hx hq2 hq3 hts hq; go_wp2_with (first | (at_builtin; refine wpList_append_any _ rfl (.tmp 8) (.tmp 11) 45 rfl w.heap.size 37 i0 (.int .u32 0) 1 4 Tryd.underlying45 hi hz0 hz1 hz2 rfl (by decide) v k (cells ((dig n).take k)) rfl (HO.out.alloc _) _ (some ⟨wr.heap.size, 0, none⟩) 1 1 (cells [x]) rfl (reads_new _ _ _) (cells_one _) (by have := HN2.out; unfold maxLen; omega) (by have := HN2.out; omega) (by have := HB.out.size; simp; omega) ?_; intro v1 w1 hown1 hg1 hat1))
   rw [← cells_append] at hown1; go_roundw
   case rel => exact ⟨_, k + 1, rfl, by omega, by rw [HQ3.out], by rw [HTS.out]; exact hown1, (below_alloc HB.out _).grown hg1 (by have := HB.out.size; simp; omega) (own_ge HO.out)⟩
   case measure => simp [intOf]; omega
  have hke : k = ln n := by omega
  have hq0 : q = 0 := by
   rcases Nat.eq_zero_or_pos q with h | h
   ·exact h
   rw [hq] at h; exact absurd (div_pos_iff.1 h) hlt
  have hown2 : wr.ownsRow w.heap.size 37 1 v (dig n).length (cells (dig n)) := by
   have := HO.out; rw [hke, List.take_of_length_le (show (dig n).length ≤ ln n from Nat.le_refl _)] at this; exact this
  obtain ⟨A3, c3, hv3, hrn, hc3, hcm⟩ := own_slice hown2; subst hv3; subst hq0; have HR := Hd.mk hrn; clear hrn hown2 hq hke HO; go_wp2
  go_ret
  exact ⟨_, _, rfl, ⟨HR.out, hc3, hcm⟩, HB.out⟩
theorem or_high (h l : Nat) (hl : l < 4294967296) (hh : h < 4294967296) : bits .or .u64 ((h : Int) * 4294967296) (l : Int) = ((h * 4294967296 + l : Nat) : Int) := by
 have e : ((h : Int) * 4294967296) = ((h * 4294967296 : Nat) : Int) := by omega
 rw [e, u64_or_nat _ _ (by omega) (by omega)]; have := Nat.two_pow_add_eq_or_of_lt (i := 32) hl h; congr 1
 rw [Nat.mul_comm h]; exact this.symm
theorem val_drop_cons {xs : List Nat} {k : Nat} (h : k < xs.length) : val (xs.drop k) = xs.getD k 0 + B * val (xs.drop (k + 1)) := by
 rw [List.drop_eq_getElem_cons h, val]; simp [h]
theorem val_drop_set {xs : List Nat} {k : Nat} (h : k < xs.length) (q : Nat) : val ((xs.set k q).drop k) = q + B * val (xs.drop (k + 1)) := by
 have e : (xs.set k q).drop k = q :: xs.drop (k + 1) := by
  rw [List.drop_eq_getElem_cons (by rw [List.length_set]; exact h), List.drop_set_of_lt (by omega)]; simp
 rw [e, val]
theorem div_word {r x b : Nat} (hr : r < b) (hb : b < 4294967296) (hx : x < 4294967296) : (r * 4294967296 + x) / b < 4294967296 ∧ (r * 4294967296 + x) % b < b := by
 refine ⟨?_, Nat.mod_lt _ (by omega)⟩; rw [Nat.div_lt_iff_lt_mul (by omega)]; have : (r + 1) * 4294967296 ≤ b * 4294967296 := Nat.mul_le_mul_right _ hr; omega
def RetNN (m n : Nat) (w : World) (e : Ending) (w' : World) : Prop := ∃ A c A' c', e = .returned (.tuple #[.slice A (ln m) c, .slice A' (ln n) c']) ∧ NN w' A c m ∧ NN w' A' c' n ∧ Below w.heap.size w w'
def RetSh (m n c : Nat) (w : World) (e : Ending) (w' : World) : Prop := ∃ A' c', e = .returned (.tuple #[.slice (some ⟨w.heap.size, 0, none⟩) (ln m) c, .slice A' (ln n) c']) ∧ NN w' (some ⟨w.heap.size, 0, none⟩) c m ∧ NN w' A' c' n ∧ w.heap.size < w'.heap.size ∧ Below w.heap.size w w'
set_option maxHeartbeats 1000000 in
set_option maxRecDepth 100000 in
theorem short_new (A1 : Option Addr) (c1 n b : Nat) (w : World) (h1 : NN w A1 c1 n) (l1 : ln n ≤ 1073741824) (hb0 : 0 < b) (hb : b < 4294967296) :
  Calls Tryd.prog 44 #[.slice A1 (ln n) c1, .int .u32 (b : Int)] w (RetSh (n / b) (n % b) (ln n) w) := by
 have HX := Hd.mk h1; clear h1; have hmk := fun W => make_words 34 Tryd.underlying34 (ln n : Int) (ln n) (by omega) (by omega) W
 have hbz : ((b : Int) == 0) = false := by rw [beq_eq_false_iff_ne]; omega
 go_enter Tryd.func44, Tryd.ntmps44
 go_wp2
 clear hmk; go_loopw [7, 8] (fun s7 s8 wr => ∃ (k r : Nat) (ds : List Nat), k ≤ ln n ∧ s8 = .int .i64 ((k : Int) - 1) ∧ s7 = .int .u64 (r : Int) ∧ r < b ∧ ds.length = ln n ∧ Dg ds ∧ val ((dig n).drop k) = b * val (ds.drop k) + r ∧ Blk wr w.heap.size 37 (cells ds) ∧ Below w.heap.size w wr) (fun _ s _ => (intOf s + 1).toNat)
 case atStart => exact ⟨ln n, 0, List.replicate (ln n) 0, Nat.le_refl _, rfl, rfl, hb0, by simp, dg_zeros _, by rw [List.drop_eq_nil_of_le (show (dig n).length ≤ ln n from Nat.le_refl _), List.drop_eq_nil_of_le (by simp)]; simp [val], heap_alloc_new w _, below_alloc (Below.refl _ _) _⟩
 case round =>
  obtain ⟨k, r, ds, hk, rfl, rfl, hrb, hdl, hdd, hval, hblk, hbel⟩ := hrel; have HV := Hd.mk hval; have HK := Hd.mk hblk; have HL := Hd.mk hdl; have HB := Hd.mk hbel; have HDD := Hd.mk hdd; clear hval hblk hdl hbel hdd; rcases k with _ | k
  ·have hv : n = b * val ds + r := by have := HV.out; rwa [List.drop_zero, List.drop_zero, val_dig] at this
   have hq : val ds = n / b := by rw [hv, Nat.mul_add_div hb0, Nat.div_eq_of_lt hrb]; omega
   have hr : r = n % b := by rw [hv, Nat.mul_add_mod, Nat.mod_eq_of_lt hrb]
   have hc := norm_calls (some ⟨w.heap.size, 0, none⟩) (ln n) ds _ HK.out.reads HDD.out (by have := HL.out; omega) (by omega); have hrn := HK.out.reads.of_take HDD.out; rw [HL.out, hq] at hc; rw [hq] at hrn; have HC := Hd.mk hc; have HN1 : Hd (NN wr (some ⟨w.heap.size, 0, none⟩) (ln n) (n / b)) := ⟨⟨hrn, ln_mono (Nat.div_le_self _ _), by omega⟩⟩; have HS := Hd.mk (fun W => small_calls r (by unfold B; omega) W); rw [hr] at HS; have HR := Hd.mk hr; clear hv hq hc hrn; rw [hr] at hrb ⊢; clear hr; go_wp2_with (first | (go_at_call 31; refine HC.out.mono ?_; rintro e w' ⟨rfl, rfl⟩) | (go_at_call 13; refine (HS.out _).mono ?_; rintro e w' ⟨A3, c3, rfl, hn3, hb3⟩; have HN3 := Hd.mk hn3; have HB3 := Hd.mk hb3; clear hn3 hb3))
   go_ret2
   exact ⟨A3, c3, rfl, HN1.out.to HB3.out, HN3.out, Nat.lt_of_lt_of_le HK.out.lt HB3.out.size, below_then HB.out HB.out.size HB3.out⟩
  obtain ⟨a1, rfl, hcell1⟩ := (HX.out.to HB.out).at_ (k := k) (by omega); obtain ⟨x, hx⟩ : ∃ x, x = (dig n).getD k 0 := ⟨_, rfl⟩; have hx1 : x < 4294967296 := by rw [hx]; exact dg_get (dg_dig _) k
  rw [← hx] at hcell1; have hck := HK.out.at_ (i := k) (by have := HL.out; omega); have hfz := HK.out.frozen k; obtain ⟨t, ht⟩ : ∃ t, t = r * 4294967296 + x := ⟨_, rfl⟩; obtain ⟨hq1, hr1⟩ := div_word hrb hb hx1; rw [← ht] at hq1 hr1; have hd1 := val_drop_cons (xs := dig n) (k := k) (by unfold ln at hk; omega); obtain ⟨q, hq⟩ : ∃ q, q = t / b := ⟨_, rfl⟩; obtain ⟨r2, hr2⟩ : ∃ r2, r2 = t % b := ⟨_, rfl⟩; rw [← hq] at hq1; rw [← hr2] at hr1; have hd2 := val_drop_set (xs := ds) (k := k) (by have := HL.out; omega) q
  have hnew : val ((dig n).drop k) = b * val ((ds.set k q).drop k) + r2 := by
   rw [hd1, hd2, HV.out, ← hx]; have h1 : b * q + r2 = r * 4294967296 + x := by rw [hq, hr2, ← ht]; exact Nat.div_add_mod t b
   rw [Nat.mul_add, Nat.mul_add, Nat.mul_left_comm b B]; show x + (B * (b * val (List.drop (k + 1) ds)) + 4294967296 * r) = _; omega
  have hput := HK.out.put k q; have e1 : bits .or .u64 ((r : Int) * 4294967296) (x : Int) = (t : Int) := by rw [or_high r x hx1 (by omega), ht]
  have e2 : (t : Int) / (b : Int) = (q : Int) := by rw [hq]; exact (Int.natCast_ediv _ _).symm
  have e3 : (t : Int) % (b : Int) = (r2 : Int) := by rw [hr2]; exact (Int.natCast_emod _ _).symm
  have e4 : (q : Int) % 4294967296 = (q : Int) := by omega
  have hr64 : r * 4294967296 ≤ 18446744073709551615 := by omega
  have e5 : ((k + 1 : Nat) : Int) - 1 = (k : Int) := by omega
  rw [e5]; have HN := Hd.mk hnew; have HP := Hd.mk hput; have htl : t ≤ 18446744073709551615 := by omega
  clear hx ht hq hr2 hnew hput hd1 hd2 e5; go_wp2_with fail
  go_roundw
  case rel => exact ⟨k, r2, ds.set k q, by omega, rfl, by rw [e3], hr1, by rw [List.length_set]; exact HL.out, dg_set HDD.out _ hq1, HN.out, HP.out, below_set HB.out (Nat.le_refl _) _⟩
  case measure => simp [intOf]
end Go.Proofs.YtdfhhceboacdcaaDoor
