/- Package exact: Add, Sub, Mul. -/
import Derived.Test.YtcjcpfafalkceaaRH
set_option linter.unusedVariables false
namespace Go.Proofs.Ytcjcpfafalkceaa
open Go.RowKit
theorem blk_new {W : World} {n : Nat} (h : n = W.heap.size) (cs : List Value) (t : TypeId) : Blk (W.alloc (.cells cs.toArray t)) n t cs := by
  subst h
  exact heap_alloc_new _ _
theorem raws_two {x y : Raw} {g : Nat} {t : TypeId} {w w' : World} (hb : Below w.heap.size w w') (hx : x.at_ w) (hy : y.at_ w) (h : Blk w' g t [.bool x.neg, .slice x.A x.xs.length x.c, .bool y.neg, .slice y.A y.xs.length y.c]) : RawsAt [x, y] g w' := by
  intro i r hr
  match i, hr with
  | 0, hr =>
    simp at hr
    subst hr
    exact ⟨h.cell 0, h.cell 1, Raw.at_to hx hb⟩
  | 1, hr =>
    simp at hr
    subst hr
    exact ⟨h.cell 2, h.cell 3, Raw.at_to hy hb⟩
  | i + 2, hr => simp at hr
theorem raws_one {x : Raw} {g : Nat} {t : TypeId} {w w' : World} (hb : Below w.heap.size w w') (hx : x.at_ w) (h : Blk w' g t [.bool x.neg, .slice x.A x.xs.length x.c]) : RawsAt [x] g w' := by
  intro i r hr
  match i, hr with
  | 0, hr =>
    simp at hr
    subst hr
    exact ⟨h.cell 0, h.cell 1, Raw.at_to hx hb⟩
  | i + 1, hr => simp at hr
theorem all_two (x y : Raw) : [x, y].all Raw.ok = (x.ok && y.ok) := by simp
theorem all_one (x : Raw) : [x].all Raw.ok = x.ok := by simp
theorem and_ok {x y : Raw} (h : (x.ok && y.ok) = true) : x.ok = true ∧ y.ok = true := by simpa using h
set_option maxHeartbeats 1000000 in
set_option maxRecDepth 100000 in
theorem two_add (x y : Raw) (w : World) (hx : x.at_ w) (hy : y.at_ w) :
    Calls Try.prog 63 #[x.v, y.v, .func (.func 64) #[] #[]] w (RetZE (opz x y (x.val + y.val)) (ope x y (x.val + y.val)) w) := by
  unfold opz ope
  have HV := Hd.mk (fun g W (h : Below w.heap.size w W) (hB : Blk W g 24 [.bool x.neg, .slice x.A x.xs.length x.c, .bool y.neg, .slice y.A y.xs.length y.c]) => valid_calls [x, y] g 2 W (raws_two h hx hy hB) rfl (Nat.le_refl _))
  rw [all_two] at HV
  by_cases hok : (x.ok && y.ok) = true
  · obtain ⟨hxo, hyo⟩ := and_ok hok
    rw [hok] at HV
    have hlx := Raw.ok_len hxo hx.2.1
    have hly := Raw.ok_len hyo hy.2.1
    have HP := Hd.mk (fun W (hW : Below w.heap.size w W) => wadd_calls x.val y.val x.A x.c y.A y.c W ((Raw.nn hxo hx).to hW) ((Raw.nn hyo hy).to hW) (by omega) (by omega))
    rw [← (Raw.num hxo hx.2.1).1, ← (Raw.num hyo hy.2.1).1] at HP
    obtain ⟨z, hz⟩ : ∃ z, z = x.val + y.val := ⟨_, rfl⟩
    have hzl : ln z.natAbs ≤ 1073741824 := by rw [hz]; exact Nat.le_trans (ln_mono (Int.natAbs_add_le _ _)) (Nat.le_trans (ln_add _ _) (by omega))
    rw [← hz] at HP ⊢
    rw [if_pos hok, if_pos hok]
    unfold Raw.v at HP ⊢
    clear hx hy hz hxo hyo hok hlx hly
    obtain ⟨b1, A1, c1, xs⟩ := x
    obtain ⟨b2, A2, c2, ys⟩ := y
    simp only at HP HV ⊢
    obtain ⟨n1, hn1⟩ : ∃ n, n = xs.length := ⟨_, rfl⟩
    obtain ⟨n2, hn2⟩ : ∃ n, n = ys.length := ⟨_, rfl⟩
    rw [← hn1, ← hn2] at HP HV ⊢
    clear hn1 hn2
    go_enter Try.func63, Try.ntmps63
    go_wp2_with fail
    obtain ⟨W0, hW0⟩ : ∃ W : World, W = ((w.alloc (.cells #[.bool b1, .slice A1 n1 c1] 24)).alloc (.cells #[.bool b2, .slice A2 n2 c2] 24)).alloc (.cells #[.bool false, .slice none 0 0] 24) := ⟨_, rfl⟩
    rw [← hW0]
    have HSZ : Hd (w.heap.size + 1 + 1 + 1 = W0.heap.size) := ⟨by rw [hW0]; simp⟩
    obtain ⟨hB0, hB1, hB2, hBW⟩ := boxes3 hW0
    have q0 := hB0.c0
    have q1 := hB0.c1
    have q2 := hB1.c0
    have q3 := hB1.c1
    have g0 := hB2.c0
    have g1 := hB2.c1
    have u0 := hB2.f0
    have u1 := hB2.f1
    have Q0 := Hd.mk hB0
    have Q1 := Hd.mk hB1
    have QR := Hd.mk hB2
    have HW := Hd.mk hBW
    have HB : Hd (Below W0.heap.size W0 W0) := ⟨Below.refl _ _⟩
    clear hB0 hB1 hB2 hBW hW0
    refine (HV.out _ _ (bel_then HW.out (by repeat (first | exact HB.out | exact Below.refl _ _ | refine below_alloc ?_ _ | refine below_drewN ?_ _ | refine below_drew ?_ | refine below_set ?_ (by first | exact Nat.le_refl _ | omega | (simp; done) | (simp; omega)) _))) (blk_new HSZ.out _ _)).mono ?_
    rintro e w1 ⟨rfl, hb1⟩
    have HB' : Hd (Below W0.heap.size W0 _) := ⟨bel_then (by repeat (first | exact HB.out | exact Below.refl _ _ | refine below_alloc ?_ _ | refine below_drewN ?_ _ | refine below_drew ?_ | refine below_set ?_ (by first | exact Nat.le_refl _ | omega | (simp; done) | (simp; omega)) _)) hb1⟩; clear HB; have HB := HB'; clear HB' hb1; replace q0 := (Q0.out.to HB.out).c0; replace q1 := (Q0.out.to HB.out).c1; replace q2 := (Q1.out.to HB.out).c0; replace q3 := (Q1.out.to HB.out).c1; replace g0 := (QR.out.to HB.out).c0; replace g1 := (QR.out.to HB.out).c1; replace u0 := (QR.out.to HB.out).f0; replace u1 := (QR.out.to HB.out).f1
    go_wp2_with fail
    go_region_held3 (fun w' => w'.cell? ⟨w.heap.size, 0, none⟩ = some (.bool b1) ∧ w'.cell? ⟨w.heap.size, 1, none⟩ = some (.slice A1 n1 c1) ∧ w'.cell? ⟨w.heap.size + 1, 0, none⟩ = some (.bool b2) ∧ w'.cell? ⟨w.heap.size + 1, 1, none⟩ = some (.slice A2 n2 c2)) (first | exact ⟨q0, q1, q2, q3⟩ | (repeat' apply And.intro) <;> (first | exact q0 | exact q1 | exact q2 | exact q3 | (go_keep; done) | (rw [World.cell?_setCell_far _ _ _ _ (by first | (simp; done) | (simp; omega)), World.cell?_setCell_far _ _ _ _ (by first | (simp; done) | (simp; omega))]; first | exact q0 | exact q1 | exact q2 | exact q3)))
      (first | (go_at_call 69; refine (of_calls _ _ _ _ _).mono ?_; rintro e w3 ⟨rfl, hb3⟩; have HB' : Hd (Below W0.heap.size W0 _) := ⟨bel_then (by repeat (first | exact HB.out | exact Below.refl _ _ | refine below_alloc ?_ _ | refine below_drewN ?_ _ | refine below_drew ?_ | refine below_set ?_ (by first | exact Nat.le_refl _ | omega | (simp; done) | (simp; omega)) _)) hb3⟩; clear HB; have HB := HB'; clear HB' hb3; replace q0 := (Q0.out.to HB.out).c0; replace q1 := (Q0.out.to HB.out).c1; replace q2 := (Q1.out.to HB.out).c0; replace q3 := (Q1.out.to HB.out).c1; replace g0 := (QR.out.to HB.out).c0; replace g1 := (QR.out.to HB.out).c1; replace u0 := (QR.out.to HB.out).f0; replace u1 := (QR.out.to HB.out).f1) | (go_at_call 64; refine (HP.out _ (bel_then HW.out (by repeat (first | exact HB.out | exact Below.refl _ _ | refine below_alloc ?_ _ | refine below_drewN ?_ _ | refine below_drew ?_ | refine below_set ?_ (by first | exact Nat.le_refl _ | omega | (simp; done) | (simp; omega)) _)))).mono ?_; rintro e w4 ⟨A3, c3, rfl, hn3, hb4⟩; have HN3 := Hd.mk hn3; clear hn3; have HB' : Hd (Below W0.heap.size W0 _) := ⟨bel_then (by repeat (first | exact HB.out | exact Below.refl _ _ | refine below_alloc ?_ _ | refine below_drewN ?_ _ | refine below_drew ?_ | refine below_set ?_ (by first | exact Nat.le_refl _ | omega | (simp; done) | (simp; omega)) _)) hb4⟩; clear HB; have HB := HB'; clear HB' hb4; replace q0 := (Q0.out.to HB.out).c0; replace q1 := (Q0.out.to HB.out).c1; replace q2 := (Q1.out.to HB.out).c0; replace q3 := (Q1.out.to HB.out).c1; replace g0 := (QR.out.to HB.out).c0; replace g1 := (QR.out.to HB.out).c1; replace u0 := (QR.out.to HB.out).f0; replace u1 := (QR.out.to HB.out).f1) | (go_at_call 85; refine (fits_calls z A3 c3 _ HN3.out hzl).mono ?_; rintro e w5 ⟨A4, c4, rfl, hn4, hb5⟩; have HN4 := Hd.mk hn4; clear hn4; have HB' : Hd (Below W0.heap.size W0 _) := ⟨bel_then (by repeat (first | exact HB.out | exact Below.refl _ _ | refine below_alloc ?_ _ | refine below_drewN ?_ _ | refine below_drew ?_ | refine below_set ?_ (by first | exact Nat.le_refl _ | omega | (simp; done) | (simp; omega)) _)) hb5⟩; clear HB; have HB := HB'; clear HB' hb5; replace q0 := (Q0.out.to HB.out).c0; replace q1 := (Q0.out.to HB.out).c1; replace q2 := (Q1.out.to HB.out).c0; replace q3 := (Q1.out.to HB.out).c1; replace g0 := (QR.out.to HB.out).c0; replace g1 := (QR.out.to HB.out).c1; replace u0 := (QR.out.to HB.out).f0; replace u1 := (QR.out.to HB.out).f1))
    go_wp2_with fail
    obtain ⟨k0, k1, k2⟩ := two_set g0 g1 (.bool (decide (fitz z < 0))) (.slice A4 (ln (fitz z).natAbs) c4)
    refine bodyPost_ret (v := .tuple #[.agg #[.bool (decide (fitz z < 0)), .slice A4 (ln (fitz z).natAbs) c4], .int .i64 (fite z)]) (by simp [results, Try.results63, go_sem, k0, k1]) rfl ?_
    exact ⟨A4, c4, rfl, (HN4.out.set_ g0 (by intro t; simp) _).set_ k2 (by intro t; simp) _, (by repeat (first | exact bel_then HW.out HB.out | refine below_set ?_ (by first | exact Nat.le_refl _ | omega | (simp; done) | (simp; omega)) _ | refine below_alloc ?_ _ | refine below_drewN ?_ _ | refine below_drew ?_))⟩
  · have hno : (x.ok && y.ok) = false := by simpa using hok
    rw [hno] at HV
    rw [if_neg hok, if_neg hok]
    unfold Raw.v
    clear hx hy hok hno
    obtain ⟨b1, A1, c1, xs⟩ := x
    obtain ⟨b2, A2, c2, ys⟩ := y
    simp only at HV ⊢
    obtain ⟨n1, hn1⟩ : ∃ n, n = xs.length := ⟨_, rfl⟩
    obtain ⟨n2, hn2⟩ : ∃ n, n = ys.length := ⟨_, rfl⟩
    rw [← hn1, ← hn2] at HV ⊢
    clear hn1 hn2
    go_enter Try.func63, Try.ntmps63
    go_wp2_with fail
    obtain ⟨W0, hW0⟩ : ∃ W : World, W = ((w.alloc (.cells #[.bool b1, .slice A1 n1 c1] 24)).alloc (.cells #[.bool b2, .slice A2 n2 c2] 24)).alloc (.cells #[.bool false, .slice none 0 0] 24) := ⟨_, rfl⟩
    rw [← hW0]
    have HSZ : Hd (w.heap.size + 1 + 1 + 1 = W0.heap.size) := ⟨by rw [hW0]; simp⟩
    obtain ⟨hB0, hB1, hB2, hBW⟩ := boxes3 hW0
    have q0 := hB0.c0
    have q1 := hB0.c1
    have q2 := hB1.c0
    have q3 := hB1.c1
    have g0 := hB2.c0
    have g1 := hB2.c1
    have u0 := hB2.f0
    have u1 := hB2.f1
    have Q0 := Hd.mk hB0
    have Q1 := Hd.mk hB1
    have QR := Hd.mk hB2
    have HW := Hd.mk hBW
    have HB : Hd (Below W0.heap.size W0 W0) := ⟨Below.refl _ _⟩
    clear hB0 hB1 hB2 hBW hW0
    refine (HV.out _ _ (bel_then HW.out (by repeat (first | exact HB.out | exact Below.refl _ _ | refine below_alloc ?_ _ | refine below_drewN ?_ _ | refine below_drew ?_ | refine below_set ?_ (by first | exact Nat.le_refl _ | omega | (simp; done) | (simp; omega)) _))) (blk_new HSZ.out _ _)).mono ?_
    rintro e w1 ⟨rfl, hb1⟩
    have HB' : Hd (Below W0.heap.size W0 _) := ⟨bel_then (by repeat (first | exact HB.out | exact Below.refl _ _ | refine below_alloc ?_ _ | refine below_drewN ?_ _ | refine below_drew ?_ | refine below_set ?_ (by first | exact Nat.le_refl _ | omega | (simp; done) | (simp; omega)) _)) hb1⟩; clear HB; have HB := HB'; clear HB' hb1; replace q0 := (Q0.out.to HB.out).c0; replace q1 := (Q0.out.to HB.out).c1; replace q2 := (Q1.out.to HB.out).c0; replace q3 := (Q1.out.to HB.out).c1; replace g0 := (QR.out.to HB.out).c0; replace g1 := (QR.out.to HB.out).c1; replace u0 := (QR.out.to HB.out).f0; replace u1 := (QR.out.to HB.out).f1
    go_wp2_with fail
    obtain ⟨k0, k1, k2⟩ := two_set g0 g1 (.bool false) (.slice none 0 0)
    refine bodyPost_ret (v := .tuple #[.agg #[.bool false, .slice none 0 0], .int .i64 2]) (by simp [results, Try.results63, go_sem, k0, k1]) rfl ?_
    exact ⟨none, 0, by rw [show ln (Int.natAbs 0) = 0 from ln_zero]; rfl, NN.nil _ _ _ (by omega), (by repeat (first | exact bel_then HW.out HB.out | refine below_set ?_ (by first | exact Nat.le_refl _ | omega | (simp; done) | (simp; omega)) _ | refine below_alloc ?_ _ | refine below_drewN ?_ _ | refine below_drew ?_))⟩
set_option maxHeartbeats 1000000 in
set_option maxRecDepth 100000 in
theorem two_sub (x y : Raw) (w : World) (hx : x.at_ w) (hy : y.at_ w) :
    Calls Try.prog 63 #[x.v, y.v, .func (.func 66) #[] #[]] w (RetZE (opz x y (x.val - y.val)) (ope x y (x.val - y.val)) w) := by
  unfold opz ope
  have HV := Hd.mk (fun g W (h : Below w.heap.size w W) (hB : Blk W g 24 [.bool x.neg, .slice x.A x.xs.length x.c, .bool y.neg, .slice y.A y.xs.length y.c]) => valid_calls [x, y] g 2 W (raws_two h hx hy hB) rfl (Nat.le_refl _))
  rw [all_two] at HV
  by_cases hok : (x.ok && y.ok) = true
  · obtain ⟨hxo, hyo⟩ := and_ok hok
    rw [hok] at HV
    have hlx := Raw.ok_len hxo hx.2.1
    have hly := Raw.ok_len hyo hy.2.1
    have HP := Hd.mk (fun W (hW : Below w.heap.size w W) => wsub_calls x.val y.val x.A x.c y.A y.c W ((Raw.nn hxo hx).to hW) ((Raw.nn hyo hy).to hW) (by omega) (by omega))
    rw [← (Raw.num hxo hx.2.1).1, ← (Raw.num hyo hy.2.1).1] at HP
    obtain ⟨z, hz⟩ : ∃ z, z = x.val - y.val := ⟨_, rfl⟩
    have hzl : ln z.natAbs ≤ 1073741824 := by rw [hz]; exact Nat.le_trans (ln_mono (show (x.val - y.val).natAbs ≤ x.val.natAbs + y.val.natAbs by omega)) (Nat.le_trans (ln_add _ _) (by omega))
    rw [← hz] at HP ⊢
    rw [if_pos hok, if_pos hok]
    unfold Raw.v at HP ⊢
    clear hx hy hz hxo hyo hok hlx hly
    obtain ⟨b1, A1, c1, xs⟩ := x
    obtain ⟨b2, A2, c2, ys⟩ := y
    simp only at HP HV ⊢
    obtain ⟨n1, hn1⟩ : ∃ n, n = xs.length := ⟨_, rfl⟩
    obtain ⟨n2, hn2⟩ : ∃ n, n = ys.length := ⟨_, rfl⟩
    rw [← hn1, ← hn2] at HP HV ⊢
    clear hn1 hn2
    go_enter Try.func63, Try.ntmps63
    go_wp2_with fail
    obtain ⟨W0, hW0⟩ : ∃ W : World, W = ((w.alloc (.cells #[.bool b1, .slice A1 n1 c1] 24)).alloc (.cells #[.bool b2, .slice A2 n2 c2] 24)).alloc (.cells #[.bool false, .slice none 0 0] 24) := ⟨_, rfl⟩
    rw [← hW0]
    have HSZ : Hd (w.heap.size + 1 + 1 + 1 = W0.heap.size) := ⟨by rw [hW0]; simp⟩
    obtain ⟨hB0, hB1, hB2, hBW⟩ := boxes3 hW0
    have q0 := hB0.c0
    have q1 := hB0.c1
    have q2 := hB1.c0
    have q3 := hB1.c1
    have g0 := hB2.c0
    have g1 := hB2.c1
    have u0 := hB2.f0
    have u1 := hB2.f1
    have Q0 := Hd.mk hB0
    have Q1 := Hd.mk hB1
    have QR := Hd.mk hB2
    have HW := Hd.mk hBW
    have HB : Hd (Below W0.heap.size W0 W0) := ⟨Below.refl _ _⟩
    clear hB0 hB1 hB2 hBW hW0
    refine (HV.out _ _ (bel_then HW.out (by repeat (first | exact HB.out | exact Below.refl _ _ | refine below_alloc ?_ _ | refine below_drewN ?_ _ | refine below_drew ?_ | refine below_set ?_ (by first | exact Nat.le_refl _ | omega | (simp; done) | (simp; omega)) _))) (blk_new HSZ.out _ _)).mono ?_
    rintro e w1 ⟨rfl, hb1⟩
    have HB' : Hd (Below W0.heap.size W0 _) := ⟨bel_then (by repeat (first | exact HB.out | exact Below.refl _ _ | refine below_alloc ?_ _ | refine below_drewN ?_ _ | refine below_drew ?_ | refine below_set ?_ (by first | exact Nat.le_refl _ | omega | (simp; done) | (simp; omega)) _)) hb1⟩; clear HB; have HB := HB'; clear HB' hb1; replace q0 := (Q0.out.to HB.out).c0; replace q1 := (Q0.out.to HB.out).c1; replace q2 := (Q1.out.to HB.out).c0; replace q3 := (Q1.out.to HB.out).c1; replace g0 := (QR.out.to HB.out).c0; replace g1 := (QR.out.to HB.out).c1; replace u0 := (QR.out.to HB.out).f0; replace u1 := (QR.out.to HB.out).f1
    go_wp2_with fail
    go_region_held3 (fun w' => w'.cell? ⟨w.heap.size, 0, none⟩ = some (.bool b1) ∧ w'.cell? ⟨w.heap.size, 1, none⟩ = some (.slice A1 n1 c1) ∧ w'.cell? ⟨w.heap.size + 1, 0, none⟩ = some (.bool b2) ∧ w'.cell? ⟨w.heap.size + 1, 1, none⟩ = some (.slice A2 n2 c2)) (first | exact ⟨q0, q1, q2, q3⟩ | (repeat' apply And.intro) <;> (first | exact q0 | exact q1 | exact q2 | exact q3 | (go_keep; done) | (rw [World.cell?_setCell_far _ _ _ _ (by first | (simp; done) | (simp; omega)), World.cell?_setCell_far _ _ _ _ (by first | (simp; done) | (simp; omega))]; first | exact q0 | exact q1 | exact q2 | exact q3)))
      (first | (go_at_call 69; refine (of_calls _ _ _ _ _).mono ?_; rintro e w3 ⟨rfl, hb3⟩; have HB' : Hd (Below W0.heap.size W0 _) := ⟨bel_then (by repeat (first | exact HB.out | exact Below.refl _ _ | refine below_alloc ?_ _ | refine below_drewN ?_ _ | refine below_drew ?_ | refine below_set ?_ (by first | exact Nat.le_refl _ | omega | (simp; done) | (simp; omega)) _)) hb3⟩; clear HB; have HB := HB'; clear HB' hb3; replace q0 := (Q0.out.to HB.out).c0; replace q1 := (Q0.out.to HB.out).c1; replace q2 := (Q1.out.to HB.out).c0; replace q3 := (Q1.out.to HB.out).c1; replace g0 := (QR.out.to HB.out).c0; replace g1 := (QR.out.to HB.out).c1; replace u0 := (QR.out.to HB.out).f0; replace u1 := (QR.out.to HB.out).f1) | (go_at_call 66; refine (HP.out _ (bel_then HW.out (by repeat (first | exact HB.out | exact Below.refl _ _ | refine below_alloc ?_ _ | refine below_drewN ?_ _ | refine below_drew ?_ | refine below_set ?_ (by first | exact Nat.le_refl _ | omega | (simp; done) | (simp; omega)) _)))).mono ?_; rintro e w4 ⟨A3, c3, rfl, hn3, hb4⟩; have HN3 := Hd.mk hn3; clear hn3; have HB' : Hd (Below W0.heap.size W0 _) := ⟨bel_then (by repeat (first | exact HB.out | exact Below.refl _ _ | refine below_alloc ?_ _ | refine below_drewN ?_ _ | refine below_drew ?_ | refine below_set ?_ (by first | exact Nat.le_refl _ | omega | (simp; done) | (simp; omega)) _)) hb4⟩; clear HB; have HB := HB'; clear HB' hb4; replace q0 := (Q0.out.to HB.out).c0; replace q1 := (Q0.out.to HB.out).c1; replace q2 := (Q1.out.to HB.out).c0; replace q3 := (Q1.out.to HB.out).c1; replace g0 := (QR.out.to HB.out).c0; replace g1 := (QR.out.to HB.out).c1; replace u0 := (QR.out.to HB.out).f0; replace u1 := (QR.out.to HB.out).f1) | (go_at_call 85; refine (fits_calls z A3 c3 _ HN3.out hzl).mono ?_; rintro e w5 ⟨A4, c4, rfl, hn4, hb5⟩; have HN4 := Hd.mk hn4; clear hn4; have HB' : Hd (Below W0.heap.size W0 _) := ⟨bel_then (by repeat (first | exact HB.out | exact Below.refl _ _ | refine below_alloc ?_ _ | refine below_drewN ?_ _ | refine below_drew ?_ | refine below_set ?_ (by first | exact Nat.le_refl _ | omega | (simp; done) | (simp; omega)) _)) hb5⟩; clear HB; have HB := HB'; clear HB' hb5; replace q0 := (Q0.out.to HB.out).c0; replace q1 := (Q0.out.to HB.out).c1; replace q2 := (Q1.out.to HB.out).c0; replace q3 := (Q1.out.to HB.out).c1; replace g0 := (QR.out.to HB.out).c0; replace g1 := (QR.out.to HB.out).c1; replace u0 := (QR.out.to HB.out).f0; replace u1 := (QR.out.to HB.out).f1))
    go_wp2_with fail
    obtain ⟨k0, k1, k2⟩ := two_set g0 g1 (.bool (decide (fitz z < 0))) (.slice A4 (ln (fitz z).natAbs) c4)
    refine bodyPost_ret (v := .tuple #[.agg #[.bool (decide (fitz z < 0)), .slice A4 (ln (fitz z).natAbs) c4], .int .i64 (fite z)]) (by simp [results, Try.results63, go_sem, k0, k1]) rfl ?_
    exact ⟨A4, c4, rfl, (HN4.out.set_ g0 (by intro t; simp) _).set_ k2 (by intro t; simp) _, (by repeat (first | exact bel_then HW.out HB.out | refine below_set ?_ (by first | exact Nat.le_refl _ | omega | (simp; done) | (simp; omega)) _ | refine below_alloc ?_ _ | refine below_drewN ?_ _ | refine below_drew ?_))⟩
  · have hno : (x.ok && y.ok) = false := by simpa using hok
    rw [hno] at HV
    rw [if_neg hok, if_neg hok]
    unfold Raw.v
    clear hx hy hok hno
    obtain ⟨b1, A1, c1, xs⟩ := x
    obtain ⟨b2, A2, c2, ys⟩ := y
    simp only at HV ⊢
    obtain ⟨n1, hn1⟩ : ∃ n, n = xs.length := ⟨_, rfl⟩
    obtain ⟨n2, hn2⟩ : ∃ n, n = ys.length := ⟨_, rfl⟩
    rw [← hn1, ← hn2] at HV ⊢
    clear hn1 hn2
    go_enter Try.func63, Try.ntmps63
    go_wp2_with fail
    obtain ⟨W0, hW0⟩ : ∃ W : World, W = ((w.alloc (.cells #[.bool b1, .slice A1 n1 c1] 24)).alloc (.cells #[.bool b2, .slice A2 n2 c2] 24)).alloc (.cells #[.bool false, .slice none 0 0] 24) := ⟨_, rfl⟩
    rw [← hW0]
    have HSZ : Hd (w.heap.size + 1 + 1 + 1 = W0.heap.size) := ⟨by rw [hW0]; simp⟩
    obtain ⟨hB0, hB1, hB2, hBW⟩ := boxes3 hW0
    have q0 := hB0.c0
    have q1 := hB0.c1
    have q2 := hB1.c0
    have q3 := hB1.c1
    have g0 := hB2.c0
    have g1 := hB2.c1
    have u0 := hB2.f0
    have u1 := hB2.f1
    have Q0 := Hd.mk hB0
    have Q1 := Hd.mk hB1
    have QR := Hd.mk hB2
    have HW := Hd.mk hBW
    have HB : Hd (Below W0.heap.size W0 W0) := ⟨Below.refl _ _⟩
    clear hB0 hB1 hB2 hBW hW0
    refine (HV.out _ _ (bel_then HW.out (by repeat (first | exact HB.out | exact Below.refl _ _ | refine below_alloc ?_ _ | refine below_drewN ?_ _ | refine below_drew ?_ | refine below_set ?_ (by first | exact Nat.le_refl _ | omega | (simp; done) | (simp; omega)) _))) (blk_new HSZ.out _ _)).mono ?_
    rintro e w1 ⟨rfl, hb1⟩
    have HB' : Hd (Below W0.heap.size W0 _) := ⟨bel_then (by repeat (first | exact HB.out | exact Below.refl _ _ | refine below_alloc ?_ _ | refine below_drewN ?_ _ | refine below_drew ?_ | refine below_set ?_ (by first | exact Nat.le_refl _ | omega | (simp; done) | (simp; omega)) _)) hb1⟩; clear HB; have HB := HB'; clear HB' hb1; replace q0 := (Q0.out.to HB.out).c0; replace q1 := (Q0.out.to HB.out).c1; replace q2 := (Q1.out.to HB.out).c0; replace q3 := (Q1.out.to HB.out).c1; replace g0 := (QR.out.to HB.out).c0; replace g1 := (QR.out.to HB.out).c1; replace u0 := (QR.out.to HB.out).f0; replace u1 := (QR.out.to HB.out).f1
    go_wp2_with fail
    obtain ⟨k0, k1, k2⟩ := two_set g0 g1 (.bool false) (.slice none 0 0)
    refine bodyPost_ret (v := .tuple #[.agg #[.bool false, .slice none 0 0], .int .i64 2]) (by simp [results, Try.results63, go_sem, k0, k1]) rfl ?_
    exact ⟨none, 0, by rw [show ln (Int.natAbs 0) = 0 from ln_zero]; rfl, NN.nil _ _ _ (by omega), (by repeat (first | exact bel_then HW.out HB.out | refine below_set ?_ (by first | exact Nat.le_refl _ | omega | (simp; done) | (simp; omega)) _ | refine below_alloc ?_ _ | refine below_drewN ?_ _ | refine below_drew ?_))⟩
set_option maxHeartbeats 1000000 in
set_option maxRecDepth 100000 in
theorem two_mul (x y : Raw) (w : World) (hx : x.at_ w) (hy : y.at_ w) :
    Calls Try.prog 63 #[x.v, y.v, .func (.func 67) #[] #[]] w (RetZE (opz x y (x.val * y.val)) (ope x y (x.val * y.val)) w) := by
  unfold opz ope
  have HV := Hd.mk (fun g W (h : Below w.heap.size w W) (hB : Blk W g 24 [.bool x.neg, .slice x.A x.xs.length x.c, .bool y.neg, .slice y.A y.xs.length y.c]) => valid_calls [x, y] g 2 W (raws_two h hx hy hB) rfl (Nat.le_refl _))
  rw [all_two] at HV
  by_cases hok : (x.ok && y.ok) = true
  · obtain ⟨hxo, hyo⟩ := and_ok hok
    rw [hok] at HV
    have hlx := Raw.ok_len hxo hx.2.1
    have hly := Raw.ok_len hyo hy.2.1
    have HP := Hd.mk (fun W (hW : Below w.heap.size w W) => wmul_calls x.val y.val x.A x.c y.A y.c W ((Raw.nn hxo hx).to hW) ((Raw.nn hyo hy).to hW) (by omega) (by omega))
    rw [← (Raw.num hxo hx.2.1).1, ← (Raw.num hyo hy.2.1).1] at HP
    obtain ⟨z, hz⟩ : ∃ z, z = x.val * y.val := ⟨_, rfl⟩
    have hzl : ln z.natAbs ≤ 1073741824 := by rw [hz]; rw [Int.natAbs_mul]; exact Nat.le_trans (ln_mul _ _) (by omega)
    rw [← hz] at HP ⊢
    rw [if_pos hok, if_pos hok]
    unfold Raw.v at HP ⊢
    clear hx hy hz hxo hyo hok hlx hly
    obtain ⟨b1, A1, c1, xs⟩ := x
    obtain ⟨b2, A2, c2, ys⟩ := y
    simp only at HP HV ⊢
    obtain ⟨n1, hn1⟩ : ∃ n, n = xs.length := ⟨_, rfl⟩
    obtain ⟨n2, hn2⟩ : ∃ n, n = ys.length := ⟨_, rfl⟩
    rw [← hn1, ← hn2] at HP HV ⊢
    clear hn1 hn2
    go_enter Try.func63, Try.ntmps63
    go_wp2_with fail
    obtain ⟨W0, hW0⟩ : ∃ W : World, W = ((w.alloc (.cells #[.bool b1, .slice A1 n1 c1] 24)).alloc (.cells #[.bool b2, .slice A2 n2 c2] 24)).alloc (.cells #[.bool false, .slice none 0 0] 24) := ⟨_, rfl⟩
    rw [← hW0]
    have HSZ : Hd (w.heap.size + 1 + 1 + 1 = W0.heap.size) := ⟨by rw [hW0]; simp⟩
    obtain ⟨hB0, hB1, hB2, hBW⟩ := boxes3 hW0
    have q0 := hB0.c0
    have q1 := hB0.c1
    have q2 := hB1.c0
    have q3 := hB1.c1
    have g0 := hB2.c0
    have g1 := hB2.c1
    have u0 := hB2.f0
    have u1 := hB2.f1
    have Q0 := Hd.mk hB0
    have Q1 := Hd.mk hB1
    have QR := Hd.mk hB2
    have HW := Hd.mk hBW
    have HB : Hd (Below W0.heap.size W0 W0) := ⟨Below.refl _ _⟩
    clear hB0 hB1 hB2 hBW hW0
    refine (HV.out _ _ (bel_then HW.out (by repeat (first | exact HB.out | exact Below.refl _ _ | refine below_alloc ?_ _ | refine below_drewN ?_ _ | refine below_drew ?_ | refine below_set ?_ (by first | exact Nat.le_refl _ | omega | (simp; done) | (simp; omega)) _))) (blk_new HSZ.out _ _)).mono ?_
    rintro e w1 ⟨rfl, hb1⟩
    have HB' : Hd (Below W0.heap.size W0 _) := ⟨bel_then (by repeat (first | exact HB.out | exact Below.refl _ _ | refine below_alloc ?_ _ | refine below_drewN ?_ _ | refine below_drew ?_ | refine below_set ?_ (by first | exact Nat.le_refl _ | omega | (simp; done) | (simp; omega)) _)) hb1⟩; clear HB; have HB := HB'; clear HB' hb1; replace q0 := (Q0.out.to HB.out).c0; replace q1 := (Q0.out.to HB.out).c1; replace q2 := (Q1.out.to HB.out).c0; replace q3 := (Q1.out.to HB.out).c1; replace g0 := (QR.out.to HB.out).c0; replace g1 := (QR.out.to HB.out).c1; replace u0 := (QR.out.to HB.out).f0; replace u1 := (QR.out.to HB.out).f1
    go_wp2_with fail
    go_region_held3 (fun w' => w'.cell? ⟨w.heap.size, 0, none⟩ = some (.bool b1) ∧ w'.cell? ⟨w.heap.size, 1, none⟩ = some (.slice A1 n1 c1) ∧ w'.cell? ⟨w.heap.size + 1, 0, none⟩ = some (.bool b2) ∧ w'.cell? ⟨w.heap.size + 1, 1, none⟩ = some (.slice A2 n2 c2)) (first | exact ⟨q0, q1, q2, q3⟩ | (repeat' apply And.intro) <;> (first | exact q0 | exact q1 | exact q2 | exact q3 | (go_keep; done) | (rw [World.cell?_setCell_far _ _ _ _ (by first | (simp; done) | (simp; omega)), World.cell?_setCell_far _ _ _ _ (by first | (simp; done) | (simp; omega))]; first | exact q0 | exact q1 | exact q2 | exact q3)))
      (first | (go_at_call 69; refine (of_calls _ _ _ _ _).mono ?_; rintro e w3 ⟨rfl, hb3⟩; have HB' : Hd (Below W0.heap.size W0 _) := ⟨bel_then (by repeat (first | exact HB.out | exact Below.refl _ _ | refine below_alloc ?_ _ | refine below_drewN ?_ _ | refine below_drew ?_ | refine below_set ?_ (by first | exact Nat.le_refl _ | omega | (simp; done) | (simp; omega)) _)) hb3⟩; clear HB; have HB := HB'; clear HB' hb3; replace q0 := (Q0.out.to HB.out).c0; replace q1 := (Q0.out.to HB.out).c1; replace q2 := (Q1.out.to HB.out).c0; replace q3 := (Q1.out.to HB.out).c1; replace g0 := (QR.out.to HB.out).c0; replace g1 := (QR.out.to HB.out).c1; replace u0 := (QR.out.to HB.out).f0; replace u1 := (QR.out.to HB.out).f1) | (go_at_call 67; refine (HP.out _ (bel_then HW.out (by repeat (first | exact HB.out | exact Below.refl _ _ | refine below_alloc ?_ _ | refine below_drewN ?_ _ | refine below_drew ?_ | refine below_set ?_ (by first | exact Nat.le_refl _ | omega | (simp; done) | (simp; omega)) _)))).mono ?_; rintro e w4 ⟨A3, c3, rfl, hn3, hb4⟩; have HN3 := Hd.mk hn3; clear hn3; have HB' : Hd (Below W0.heap.size W0 _) := ⟨bel_then (by repeat (first | exact HB.out | exact Below.refl _ _ | refine below_alloc ?_ _ | refine below_drewN ?_ _ | refine below_drew ?_ | refine below_set ?_ (by first | exact Nat.le_refl _ | omega | (simp; done) | (simp; omega)) _)) hb4⟩; clear HB; have HB := HB'; clear HB' hb4; replace q0 := (Q0.out.to HB.out).c0; replace q1 := (Q0.out.to HB.out).c1; replace q2 := (Q1.out.to HB.out).c0; replace q3 := (Q1.out.to HB.out).c1; replace g0 := (QR.out.to HB.out).c0; replace g1 := (QR.out.to HB.out).c1; replace u0 := (QR.out.to HB.out).f0; replace u1 := (QR.out.to HB.out).f1) | (go_at_call 85; refine (fits_calls z A3 c3 _ HN3.out hzl).mono ?_; rintro e w5 ⟨A4, c4, rfl, hn4, hb5⟩; have HN4 := Hd.mk hn4; clear hn4; have HB' : Hd (Below W0.heap.size W0 _) := ⟨bel_then (by repeat (first | exact HB.out | exact Below.refl _ _ | refine below_alloc ?_ _ | refine below_drewN ?_ _ | refine below_drew ?_ | refine below_set ?_ (by first | exact Nat.le_refl _ | omega | (simp; done) | (simp; omega)) _)) hb5⟩; clear HB; have HB := HB'; clear HB' hb5; replace q0 := (Q0.out.to HB.out).c0; replace q1 := (Q0.out.to HB.out).c1; replace q2 := (Q1.out.to HB.out).c0; replace q3 := (Q1.out.to HB.out).c1; replace g0 := (QR.out.to HB.out).c0; replace g1 := (QR.out.to HB.out).c1; replace u0 := (QR.out.to HB.out).f0; replace u1 := (QR.out.to HB.out).f1))
    go_wp2_with fail
    obtain ⟨k0, k1, k2⟩ := two_set g0 g1 (.bool (decide (fitz z < 0))) (.slice A4 (ln (fitz z).natAbs) c4)
    refine bodyPost_ret (v := .tuple #[.agg #[.bool (decide (fitz z < 0)), .slice A4 (ln (fitz z).natAbs) c4], .int .i64 (fite z)]) (by simp [results, Try.results63, go_sem, k0, k1]) rfl ?_
    exact ⟨A4, c4, rfl, (HN4.out.set_ g0 (by intro t; simp) _).set_ k2 (by intro t; simp) _, (by repeat (first | exact bel_then HW.out HB.out | refine below_set ?_ (by first | exact Nat.le_refl _ | omega | (simp; done) | (simp; omega)) _ | refine below_alloc ?_ _ | refine below_drewN ?_ _ | refine below_drew ?_))⟩
  · have hno : (x.ok && y.ok) = false := by simpa using hok
    rw [hno] at HV
    rw [if_neg hok, if_neg hok]
    unfold Raw.v
    clear hx hy hok hno
    obtain ⟨b1, A1, c1, xs⟩ := x
    obtain ⟨b2, A2, c2, ys⟩ := y
    simp only at HV ⊢
    obtain ⟨n1, hn1⟩ : ∃ n, n = xs.length := ⟨_, rfl⟩
    obtain ⟨n2, hn2⟩ : ∃ n, n = ys.length := ⟨_, rfl⟩
    rw [← hn1, ← hn2] at HV ⊢
    clear hn1 hn2
    go_enter Try.func63, Try.ntmps63
    go_wp2_with fail
    obtain ⟨W0, hW0⟩ : ∃ W : World, W = ((w.alloc (.cells #[.bool b1, .slice A1 n1 c1] 24)).alloc (.cells #[.bool b2, .slice A2 n2 c2] 24)).alloc (.cells #[.bool false, .slice none 0 0] 24) := ⟨_, rfl⟩
    rw [← hW0]
    have HSZ : Hd (w.heap.size + 1 + 1 + 1 = W0.heap.size) := ⟨by rw [hW0]; simp⟩
    obtain ⟨hB0, hB1, hB2, hBW⟩ := boxes3 hW0
    have q0 := hB0.c0
    have q1 := hB0.c1
    have q2 := hB1.c0
    have q3 := hB1.c1
    have g0 := hB2.c0
    have g1 := hB2.c1
    have u0 := hB2.f0
    have u1 := hB2.f1
    have Q0 := Hd.mk hB0
    have Q1 := Hd.mk hB1
    have QR := Hd.mk hB2
    have HW := Hd.mk hBW
    have HB : Hd (Below W0.heap.size W0 W0) := ⟨Below.refl _ _⟩
    clear hB0 hB1 hB2 hBW hW0
    refine (HV.out _ _ (bel_then HW.out (by repeat (first | exact HB.out | exact Below.refl _ _ | refine below_alloc ?_ _ | refine below_drewN ?_ _ | refine below_drew ?_ | refine below_set ?_ (by first | exact Nat.le_refl _ | omega | (simp; done) | (simp; omega)) _))) (blk_new HSZ.out _ _)).mono ?_
    rintro e w1 ⟨rfl, hb1⟩
    have HB' : Hd (Below W0.heap.size W0 _) := ⟨bel_then (by repeat (first | exact HB.out | exact Below.refl _ _ | refine below_alloc ?_ _ | refine below_drewN ?_ _ | refine below_drew ?_ | refine below_set ?_ (by first | exact Nat.le_refl _ | omega | (simp; done) | (simp; omega)) _)) hb1⟩; clear HB; have HB := HB'; clear HB' hb1; replace q0 := (Q0.out.to HB.out).c0; replace q1 := (Q0.out.to HB.out).c1; replace q2 := (Q1.out.to HB.out).c0; replace q3 := (Q1.out.to HB.out).c1; replace g0 := (QR.out.to HB.out).c0; replace g1 := (QR.out.to HB.out).c1; replace u0 := (QR.out.to HB.out).f0; replace u1 := (QR.out.to HB.out).f1
    go_wp2_with fail
    obtain ⟨k0, k1, k2⟩ := two_set g0 g1 (.bool false) (.slice none 0 0)
    refine bodyPost_ret (v := .tuple #[.agg #[.bool false, .slice none 0 0], .int .i64 2]) (by simp [results, Try.results63, go_sem, k0, k1]) rfl ?_
    exact ⟨none, 0, by rw [show ln (Int.natAbs 0) = 0 from ln_zero]; rfl, NN.nil _ _ _ (by omega), (by repeat (first | exact bel_then HW.out HB.out | refine below_set ?_ (by first | exact Nat.le_refl _ | omega | (simp; done) | (simp; omega)) _ | refine below_alloc ?_ _ | refine below_drewN ?_ _ | refine below_drew ?_))⟩
set_option maxRecDepth 100000 in
theorem Add_calls (x y : Raw) (w : World) (hx : x.at_ w) (hy : y.at_ w) :
    Calls Try.prog 13 #[x.v, y.v] w (RetZE (opz x y (x.val + y.val)) (ope x y (x.val + y.val)) w) := by
  have HT := Hd.mk (fun W (hW : Below w.heap.size w W) => two_add x y W (Raw.at_to hx hW) (Raw.at_to hy hW))
  obtain ⟨z, hz⟩ : ∃ z, z = opz x y (x.val + y.val) := ⟨_, rfl⟩
  obtain ⟨ze, hze⟩ : ∃ z, z = ope x y (x.val + y.val) := ⟨_, rfl⟩
  rw [← hz, ← hze] at HT ⊢
  clear hz hze hx hy
  unfold Raw.v at HT ⊢
  obtain ⟨b1, A1, c1, xs⟩ := x
  obtain ⟨b2, A2, c2, ys⟩ := y
  simp only at HT ⊢
  obtain ⟨n1, hn1⟩ : ∃ n, n = xs.length := ⟨_, rfl⟩
  obtain ⟨n2, hn2⟩ : ∃ n, n = ys.length := ⟨_, rfl⟩
  rw [← hn1, ← hn2] at HT ⊢
  clear hn1 hn2
  go_enter Try.func13, Try.ntmps13
  go_wp2_with fail
  obtain ⟨W0, hW0⟩ : ∃ W : World, W = ((w.alloc (.cells #[.bool b1, .slice A1 n1 c1] 24)).alloc (.cells #[.bool b2, .slice A2 n2 c2] 24)).alloc (.cells #[.bool false, .slice none 0 0] 24) := ⟨_, rfl⟩
  rw [← hW0]
  have HSZ : Hd (w.heap.size + 1 + 1 + 1 = W0.heap.size) := ⟨by rw [hW0]; simp⟩
  obtain ⟨hB0, hB1, hB2, hBW⟩ := boxes3 hW0
  have q0 := hB0.c0
  have q1 := hB0.c1
  have q2 := hB1.c0
  have q3 := hB1.c1
  have g0 := hB2.c0
  have g1 := hB2.c1
  have u0 := hB2.f0
  have u1 := hB2.f1
  have Q0 := Hd.mk hB0
  have Q1 := Hd.mk hB1
  have QR := Hd.mk hB2
  have HW := Hd.mk hBW
  have HB : Hd (Below W0.heap.size W0 W0) := ⟨Below.refl _ _⟩
  clear hB0 hB1 hB2 hBW hW0
  refine (HT.out _ HW.out).mono ?_
  rintro e w1 ⟨A4, c4, rfl, hn4, hb1⟩
  have HN4 := Hd.mk hn4
  clear hn4
  have HB' : Hd (Below W0.heap.size W0 _) := ⟨bel_then (by repeat (first | exact HB.out | exact Below.refl _ _ | refine below_alloc ?_ _ | refine below_drewN ?_ _ | refine below_drew ?_ | refine below_set ?_ (by first | exact Nat.le_refl _ | omega | (simp; done) | (simp; omega)) _)) hb1⟩; clear HB; have HB := HB'; clear HB' hb1; replace q0 := (Q0.out.to HB.out).c0; replace q1 := (Q0.out.to HB.out).c1; replace q2 := (Q1.out.to HB.out).c0; replace q3 := (Q1.out.to HB.out).c1; replace g0 := (QR.out.to HB.out).c0; replace g1 := (QR.out.to HB.out).c1; replace u0 := (QR.out.to HB.out).f0; replace u1 := (QR.out.to HB.out).f1
  go_wp2_with fail
  obtain ⟨k0, k1, k2⟩ := two_set g0 g1 (.bool (decide (z < 0))) (.slice A4 (ln z.natAbs) c4)
  refine bodyPost_ret (v := .tuple #[.agg #[.bool (decide (z < 0)), .slice A4 (ln z.natAbs) c4], .int .i64 ze]) (by simp [results, Try.results13, go_sem, k0, k1]) rfl ?_
  exact ⟨A4, c4, rfl, (HN4.out.set_ g0 (by intro t; simp) _).set_ k2 (by intro t; simp) _, (by repeat (first | exact bel_then HW.out HB.out | refine below_set ?_ (by first | exact Nat.le_refl _ | omega | (simp; done) | (simp; omega)) _ | refine below_alloc ?_ _ | refine below_drewN ?_ _ | refine below_drew ?_))⟩
set_option maxRecDepth 100000 in
theorem Sub_calls (x y : Raw) (w : World) (hx : x.at_ w) (hy : y.at_ w) :
    Calls Try.prog 15 #[x.v, y.v] w (RetZE (opz x y (x.val - y.val)) (ope x y (x.val - y.val)) w) := by
  have HT := Hd.mk (fun W (hW : Below w.heap.size w W) => two_sub x y W (Raw.at_to hx hW) (Raw.at_to hy hW))
  obtain ⟨z, hz⟩ : ∃ z, z = opz x y (x.val - y.val) := ⟨_, rfl⟩
  obtain ⟨ze, hze⟩ : ∃ z, z = ope x y (x.val - y.val) := ⟨_, rfl⟩
  rw [← hz, ← hze] at HT ⊢
  clear hz hze hx hy
  unfold Raw.v at HT ⊢
  obtain ⟨b1, A1, c1, xs⟩ := x
  obtain ⟨b2, A2, c2, ys⟩ := y
  simp only at HT ⊢
  obtain ⟨n1, hn1⟩ : ∃ n, n = xs.length := ⟨_, rfl⟩
  obtain ⟨n2, hn2⟩ : ∃ n, n = ys.length := ⟨_, rfl⟩
  rw [← hn1, ← hn2] at HT ⊢
  clear hn1 hn2
  go_enter Try.func15, Try.ntmps15
  go_wp2_with fail
  obtain ⟨W0, hW0⟩ : ∃ W : World, W = ((w.alloc (.cells #[.bool b1, .slice A1 n1 c1] 24)).alloc (.cells #[.bool b2, .slice A2 n2 c2] 24)).alloc (.cells #[.bool false, .slice none 0 0] 24) := ⟨_, rfl⟩
  rw [← hW0]
  have HSZ : Hd (w.heap.size + 1 + 1 + 1 = W0.heap.size) := ⟨by rw [hW0]; simp⟩
  obtain ⟨hB0, hB1, hB2, hBW⟩ := boxes3 hW0
  have q0 := hB0.c0
  have q1 := hB0.c1
  have q2 := hB1.c0
  have q3 := hB1.c1
  have g0 := hB2.c0
  have g1 := hB2.c1
  have u0 := hB2.f0
  have u1 := hB2.f1
  have Q0 := Hd.mk hB0
  have Q1 := Hd.mk hB1
  have QR := Hd.mk hB2
  have HW := Hd.mk hBW
  have HB : Hd (Below W0.heap.size W0 W0) := ⟨Below.refl _ _⟩
  clear hB0 hB1 hB2 hBW hW0
  refine (HT.out _ HW.out).mono ?_
  rintro e w1 ⟨A4, c4, rfl, hn4, hb1⟩
  have HN4 := Hd.mk hn4
  clear hn4
  have HB' : Hd (Below W0.heap.size W0 _) := ⟨bel_then (by repeat (first | exact HB.out | exact Below.refl _ _ | refine below_alloc ?_ _ | refine below_drewN ?_ _ | refine below_drew ?_ | refine below_set ?_ (by first | exact Nat.le_refl _ | omega | (simp; done) | (simp; omega)) _)) hb1⟩; clear HB; have HB := HB'; clear HB' hb1; replace q0 := (Q0.out.to HB.out).c0; replace q1 := (Q0.out.to HB.out).c1; replace q2 := (Q1.out.to HB.out).c0; replace q3 := (Q1.out.to HB.out).c1; replace g0 := (QR.out.to HB.out).c0; replace g1 := (QR.out.to HB.out).c1; replace u0 := (QR.out.to HB.out).f0; replace u1 := (QR.out.to HB.out).f1
  go_wp2_with fail
  obtain ⟨k0, k1, k2⟩ := two_set g0 g1 (.bool (decide (z < 0))) (.slice A4 (ln z.natAbs) c4)
  refine bodyPost_ret (v := .tuple #[.agg #[.bool (decide (z < 0)), .slice A4 (ln z.natAbs) c4], .int .i64 ze]) (by simp [results, Try.results15, go_sem, k0, k1]) rfl ?_
  exact ⟨A4, c4, rfl, (HN4.out.set_ g0 (by intro t; simp) _).set_ k2 (by intro t; simp) _, (by repeat (first | exact bel_then HW.out HB.out | refine below_set ?_ (by first | exact Nat.le_refl _ | omega | (simp; done) | (simp; omega)) _ | refine below_alloc ?_ _ | refine below_drewN ?_ _ | refine below_drew ?_))⟩
set_option maxRecDepth 100000 in
theorem Mul_calls (x y : Raw) (w : World) (hx : x.at_ w) (hy : y.at_ w) :
    Calls Try.prog 16 #[x.v, y.v] w (RetZE (opz x y (x.val * y.val)) (ope x y (x.val * y.val)) w) := by
  have HT := Hd.mk (fun W (hW : Below w.heap.size w W) => two_mul x y W (Raw.at_to hx hW) (Raw.at_to hy hW))
  obtain ⟨z, hz⟩ : ∃ z, z = opz x y (x.val * y.val) := ⟨_, rfl⟩
  obtain ⟨ze, hze⟩ : ∃ z, z = ope x y (x.val * y.val) := ⟨_, rfl⟩
  rw [← hz, ← hze] at HT ⊢
  clear hz hze hx hy
  unfold Raw.v at HT ⊢
  obtain ⟨b1, A1, c1, xs⟩ := x
  obtain ⟨b2, A2, c2, ys⟩ := y
  simp only at HT ⊢
  obtain ⟨n1, hn1⟩ : ∃ n, n = xs.length := ⟨_, rfl⟩
  obtain ⟨n2, hn2⟩ : ∃ n, n = ys.length := ⟨_, rfl⟩
  rw [← hn1, ← hn2] at HT ⊢
  clear hn1 hn2
  go_enter Try.func16, Try.ntmps16
  go_wp2_with fail
  obtain ⟨W0, hW0⟩ : ∃ W : World, W = ((w.alloc (.cells #[.bool b1, .slice A1 n1 c1] 24)).alloc (.cells #[.bool b2, .slice A2 n2 c2] 24)).alloc (.cells #[.bool false, .slice none 0 0] 24) := ⟨_, rfl⟩
  rw [← hW0]
  have HSZ : Hd (w.heap.size + 1 + 1 + 1 = W0.heap.size) := ⟨by rw [hW0]; simp⟩
  obtain ⟨hB0, hB1, hB2, hBW⟩ := boxes3 hW0
  have q0 := hB0.c0
  have q1 := hB0.c1
  have q2 := hB1.c0
  have q3 := hB1.c1
  have g0 := hB2.c0
  have g1 := hB2.c1
  have u0 := hB2.f0
  have u1 := hB2.f1
  have Q0 := Hd.mk hB0
  have Q1 := Hd.mk hB1
  have QR := Hd.mk hB2
  have HW := Hd.mk hBW
  have HB : Hd (Below W0.heap.size W0 W0) := ⟨Below.refl _ _⟩
  clear hB0 hB1 hB2 hBW hW0
  refine (HT.out _ HW.out).mono ?_
  rintro e w1 ⟨A4, c4, rfl, hn4, hb1⟩
  have HN4 := Hd.mk hn4
  clear hn4
  have HB' : Hd (Below W0.heap.size W0 _) := ⟨bel_then (by repeat (first | exact HB.out | exact Below.refl _ _ | refine below_alloc ?_ _ | refine below_drewN ?_ _ | refine below_drew ?_ | refine below_set ?_ (by first | exact Nat.le_refl _ | omega | (simp; done) | (simp; omega)) _)) hb1⟩; clear HB; have HB := HB'; clear HB' hb1; replace q0 := (Q0.out.to HB.out).c0; replace q1 := (Q0.out.to HB.out).c1; replace q2 := (Q1.out.to HB.out).c0; replace q3 := (Q1.out.to HB.out).c1; replace g0 := (QR.out.to HB.out).c0; replace g1 := (QR.out.to HB.out).c1; replace u0 := (QR.out.to HB.out).f0; replace u1 := (QR.out.to HB.out).f1
  go_wp2_with fail
  obtain ⟨k0, k1, k2⟩ := two_set g0 g1 (.bool (decide (z < 0))) (.slice A4 (ln z.natAbs) c4)
  refine bodyPost_ret (v := .tuple #[.agg #[.bool (decide (z < 0)), .slice A4 (ln z.natAbs) c4], .int .i64 ze]) (by simp [results, Try.results16, go_sem, k0, k1]) rfl ?_
  exact ⟨A4, c4, rfl, (HN4.out.set_ g0 (by intro t; simp) _).set_ k2 (by intro t; simp) _, (by repeat (first | exact bel_then HW.out HB.out | refine below_set ?_ (by first | exact Nat.le_refl _ | omega | (simp; done) | (simp; omega)) _ | refine below_alloc ?_ _ | refine below_drewN ?_ _ | refine below_drew ?_))⟩
end Go.Proofs.Ytcjcpfafalkceaa
