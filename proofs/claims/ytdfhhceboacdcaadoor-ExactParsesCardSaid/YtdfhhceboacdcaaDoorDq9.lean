/- Part 9 of the texts behind this claim. -/
import Derived.ProofKit
import Derived.OpenShut
import Derived.ChangeSlices
import Derived.Lib.SmallJoins
import Derived.Test.YtdfhhceboacdcaaDoorDq4
import Derived.Test.YtdfhhceboacdcaaDoorDq8
set_option linter.unusedVariables false
namespace Go.Proofs.YtdfhhceboacdcaaDoor
open Go.RowKit
theorem dc_val {x : Nat} (h : x < 10) : (UInt8.ofNat (48 + x)).toNat = 48 + x ∧ isD (UInt8.ofNat (48 + x)) = true := by
 have e : (UInt8.ofNat (48 + x)).toNat = 48 + x := by rw [UInt8.toNat_ofNat']; omega
 refine ⟨e, ?_⟩; unfold isD; rw [e, decide_eq_true (by omega), decide_eq_true (by omega)]; rfl
theorem dec_back : ∀ m : Nat, (Go.Lib.decDigits m).all isD = true ∧ vald (Go.Lib.decDigits m) = m := by
 intro m
 induction m using Nat.strongRecOn with
 | _ m ih =>
  rw [Go.Lib.decDigits]; by_cases h : m < 10
  ·rw [dif_pos h]; obtain ⟨e1, e2⟩ := dc_val h; refine ⟨by rw [List.all_cons, e2]; rfl, ?_⟩; have := vald_snoc [] (UInt8.ofNat (48 + m)); rw [e1] at this; rw [show ([UInt8.ofNat (48 + m)] : List UInt8) = [] ++ [UInt8.ofNat (48 + m)] from rfl, this]; simp [vald]
  rw [dif_neg h]; obtain ⟨h1, h2⟩ := ih (m / 10) (by omega); obtain ⟨e1, e2⟩ := dc_val (show m % 10 < 10 by omega); refine ⟨by rw [List.all_append, h1, List.all_cons, e2]; rfl, ?_⟩; rw [vald_snoc, h2, e1]; omega
theorem pow_big (k j : Nat) (h : 32 * k ≤ 33 * j) : B ^ k ≤ 10 ^ (10 * j) := by
 have e1 : B ^ k = 2 ^ (32 * k) := by rw [Nat.pow_mul]; rfl
 rw [e1]; refine Nat.le_trans (Nat.pow_le_pow_right (by decide) h) ?_; rw [Nat.pow_mul, Nat.pow_mul]; exact Nat.pow_le_pow_left (by decide) j
theorem dec_short {m : Nat} (h : ln m ≤ 256) : (Go.Lib.decDigits m).length ≤ 2500 :=
 dec_len (k := 10 * 250) (Nat.lt_of_lt_of_le (ln_le_iff.1 h) (pow_big 256 250 (by decide))) (by decide)
theorem dec_form (b : Bool) {m : Nat} (h : ln m ≤ 256) (hb : b = true → m ≠ 0) : okT b (Go.Lib.decDigits m) = true := by
 obtain ⟨h1, h2⟩ := dec_back m; have hne : Go.Lib.decDigits m ≠ [] := by intro e; have := dec_pos m; rw [e] at this; simp at this
 rw [okT_form h1 hne (dec_short h), h2, decide_eq_true h, itoa_sgz]; by_cases h0 : m = 0
 ·cases b
  ·subst h0; rw [if_pos rfl]; simp [Go.Lib.decDigits, sgnb]
  exact absurd h0 (hb rfl)
 rw [if_neg h0]; simp
theorem spl_itoa {z : Int} (h : ln z.natAbs ≤ 256) : prZ (spl (Go.Lib.itoa z)).1 (spl (Go.Lib.itoa z)).2 = z ∧ prE (spl (Go.Lib.itoa z)).1 (spl (Go.Lib.itoa z)).2 = 0 := by
 have key : spl (Go.Lib.itoa z) = (decide (z < 0), Go.Lib.decDigits z.natAbs) := by
  unfold Go.Lib.itoa; by_cases hz : z < 0
  ·rw [if_pos hz, decide_eq_true hz]; rfl
  rw [if_neg hz, decide_eq_false hz, show z.toNat = z.natAbs by omega]; obtain ⟨h1, _⟩ := dec_back z.natAbs; have hp := dec_pos z.natAbs; rcases hd : Go.Lib.decDigits z.natAbs with _ | ⟨c, t⟩
  ·rw [hd] at hp; simp at hp
  rw [hd] at h1; refine spl_c ?_ t; intro e; subst e; simp at h1; exact absurd h1.1 (by decide)
 rw [key]; have hok := dec_form (decide (z < 0)) h (by intro e; have := of_decide_eq_true e; omega); rw [(pr_yes hok).1, (pr_yes hok).2, (dec_back z.natAbs).2]; refine ⟨?_, rfl⟩; unfold sgz; by_cases hz : z < 0
 ·rw [decide_eq_true hz]; simp; omega
 rw [decide_eq_false hz]; simp; omega
set_option maxHeartbeats 1000000 in
set_option maxRecDepth 100000 in
theorem ExactParses_walk (s : ByteArray) (w : World) (hs : s.size ≤ 140737488351232) (ht : Tab w) :
    Calls Tryd.prog 3 #[.string s] w fun e w' => e = .returned (.bool true) ∧ Below w.heap.size w w' := by
  obtain ⟨l, rfl⟩ : ∃ l : List UInt8, s = ⟨l.toArray⟩ := ⟨s.data.toList, by simp⟩
  have hl : l.length ≤ 140737488355328 := by have : (⟨l.toArray⟩ : ByteArray).size = l.length := by show l.toArray.size = _; simp
                                             omega
  obtain ⟨z, hz⟩ : ∃ z, z = prZ (spl l).1 (spl l).2 := ⟨_, rfl⟩; obtain ⟨k, hk⟩ : ∃ k, k = prE (spl l).1 (spl l).2 := ⟨_, rfl⟩; have HP := Hd.mk (fun W => Parse_calls l W hl); have HR := Hd.mk (fun W (hW : Below w.heap.size w W) => rParse_calls l W hl (ht.to hW)); rw [← hz, ← hk] at HP HR; clear hz hk hs; obtain ⟨b, hb⟩ : ∃ b, b = decide (z < 0) := ⟨_, rfl⟩; have HBB := Hd.mk hb; clear hb; go_enter Tryd.func3, Tryd.ntmps3
  go_wp2_with fail
  refine (HP.out _).mono ?_; rintro e w1 ⟨A1, c1, rfl, hn1, hb1⟩; rw [← HBB.out]; go_wp2_with fail
  obtain ⟨W1, hW1⟩ : ∃ W : World, W = w1.alloc (.cells #[.bool b, .slice A1 (ln z.natAbs) c1] 24) := ⟨_, rfl⟩; rw [← hW1]; obtain ⟨hB1, hBW1⟩ := boxes1 hW1; have HX := Hd.mk hB1; have HN1 := Hd.mk (hn1.to hBW1); have HB := Hd.mk (bel_then hb1 hBW1); clear hB1 hBW1 hW1 hn1 hb1; refine (HR.out _ HB.out).mono ?_; rintro e w2 ⟨A2, c2, rfl, hn2, hb2⟩; rw [← HBB.out]; go_upto_region 3 with (fail)
  obtain ⟨W2, hW2⟩ : ∃ W : World, W = w2.alloc (.cells #[.bool b, .slice A2 (ln z.natAbs) c2] 24) := ⟨_, rfl⟩; rw [← hW2]; have hc0 : W1.heap.size ≤ w2.heap.size := hb2.size; obtain ⟨hB2, hBW2⟩ := boxes1 hW2; have HY := Hd.mk hB2; have HN2 := Hd.mk (hn2.to hBW2); replace HN1 := Hd.mk (HN1.out.to (bel_then hb2 hBW2)); replace HX := Hd.mk (HX.out.to (bel_then hb2 hBW2)); replace HB := Hd.mk (bel_then HB.out (bel_then hb2 hBW2)); clear hB2 hBW2 hW2 hn2 hb2; have x0 := HX.out.c0; have x1 := HX.out.c1; have y0 := HY.out.c0; have y1 := HY.out.c1; have HS := Hd.mk (same_calls z z A1 c1 A2 c2 W2 HN1.out HN2.out); rw [← HBB.out, decide_eq_true (rfl : z = z)] at HS; go_wp2_with fail
  refine HS.out.mono ?_; rintro e w3 ⟨rfl, hb3⟩; replace HB := Hd.mk (bel_then HB.out hb3); clear hb3 HS; go_wp2_with fail
  refine (awake_calls _).mono ?_; rintro e w4 ⟨rfl, hb4⟩; replace HB := Hd.mk (bel_then HB.out hb4); clear hb4; go_wp2_with fail
  go_ret
  exact ⟨rfl, HB.out⟩
set_option maxHeartbeats 1000000 in
set_option maxRecDepth 100000 in
theorem ExactPrints_walk (x : Raw) (w : World) (hx : x.at_ w) (ht : Tab w) :
  Calls Tryd.prog 4 #[x.v] w fun e w' => e = .returned (.bool true) ∧ Below w.heap.size w w' := by
 have HX := Hd.mk hx; have HT := Hd.mk ht; clear hx ht; unfold Raw.v; go_enter Tryd.func4, Tryd.ntmps4
 go_wp2_with fail
 obtain ⟨W0, hW0⟩ : ∃ W : World, W = w.alloc (.cells #[.bool x.neg, .slice x.A x.xs.length x.c] 24) := ⟨_, rfl⟩; rw [← hW0]; have HSZ : Hd (w.heap.size + 1 = W0.heap.size) := ⟨by rw [hW0]; simp⟩; obtain ⟨hB0, hBW⟩ := boxes1 hW0; have q0 := hB0.c0; have q1 := hB0.c1; have Q0 := Hd.mk hB0; have HW := Hd.mk hBW; have HB : Hd (Below W0.heap.size W0 W0) := ⟨Below.refl _ _⟩; clear hB0 hBW hW0; refine (Print_calls x W0 (Raw.at_to HX.out HW.out)).mono ?_; rintro e w1 ⟨rfl, hb1⟩; have HB' : Hd (Below W0.heap.size W0 _) := ⟨bel_then (by repeat (first | exact HB.out | exact Below.refl _ _ | refine below_alloc ?_ _ | refine below_drewN ?_ _ | refine below_drew ?_ | refine below_set ?_ (by first | exact Nat.le_refl _ | omega | (simp; done) | (simp; omega)) _)) hb1⟩; clear HB; have HB := HB'; clear HB' hb1; replace q0 := (Q0.out.to HB.out).c0; replace q1 := (Q0.out.to HB.out).c1; go_wp2_with fail
 refine (rPrint_calls x w1 (Raw.at_to HX.out (bel_then HW.out HB.out)) (HT.out.to (bel_then HW.out HB.out))).mono ?_; rintro e w2 ⟨rfl, hb2⟩; have HB' : Hd (Below W0.heap.size W0 _) := ⟨bel_then (by repeat (first | exact HB.out | exact Below.refl _ _ | refine below_alloc ?_ _ | refine below_drewN ?_ _ | refine below_drew ?_ | refine below_set ?_ (by first | exact Nat.le_refl _ | omega | (simp; done) | (simp; omega)) _)) hb2⟩; clear HB; have HB := HB'; clear HB' hb2; replace q0 := (Q0.out.to HB.out).c0; replace q1 := (Q0.out.to HB.out).c1; obtain ⟨S, hS⟩ : ∃ S, S = pS x := ⟨_, rfl⟩; obtain ⟨k, hk⟩ : ∃ k, k = pE x := ⟨_, rfl⟩; rw [← hS, ← hk]; have HSS := Hd.mk hS; have HK := Hd.mk hk; clear hS hk; have hss : (S == S) = true := beq_self_eq_true S; go_wp2_with fail
 refine (awake_calls _).mono ?_; rintro e w3 ⟨rfl, hb3⟩; have HB' : Hd (Below W0.heap.size W0 _) := ⟨bel_then (by repeat (first | exact HB.out | exact Below.refl _ _ | refine below_alloc ?_ _ | refine below_drewN ?_ _ | refine below_drew ?_ | refine below_set ?_ (by first | exact Nat.le_refl _ | omega | (simp; done) | (simp; omega)) _)) hb3⟩; clear HB; have HB := HB'; clear HB' hb3; replace q0 := (Q0.out.to HB.out).c0; replace q1 := (Q0.out.to HB.out).c1; clear hss
 have hSl : S.length ≤ 140737488355328 := by
  rw [HSS.out]; unfold pS; split
  ·next hok =>
   have h1 := dec_short (Raw.ok_len hok HX.out.2.1); have h2 := dec_len (k := x.val.natAbs + 1) (n := x.val.natAbs) (Nat.lt_of_lt_of_le (Nat.lt_succ_self _) (Nat.le_of_lt (Nat.lt_pow_self (by decide)))) (by omega); unfold Go.Lib.itoa; split
   ·simp; omega
   rw [show x.val.toNat = x.val.natAbs by omega]; omega
  simp
 go_wp2_with fail
 refine (Parse_calls S w3 hSl).mono ?_; by_cases hok : x.ok = true
 ·have hl256 := Raw.ok_len hok HX.out.2.1; have hSi : S = Go.Lib.itoa x.val := by rw [HSS.out]; unfold pS; rw [if_pos hok]
  have hk0 : k = 0 := by rw [HK.out]; unfold pE; rw [if_pos hok]
  rw [hSi, (spl_itoa hl256).1, (spl_itoa hl256).2, ← hSi]; have HNX := Hd.mk (Raw.nn hok HX.out); have HVX := Hd.mk (Raw.num hok HX.out.2.1).1; rintro e w4 ⟨A4, c4, rfl, hn4, hb4⟩; have HB' : Hd (Below W0.heap.size W0 _) := ⟨bel_then (by repeat (first | exact HB.out | exact Below.refl _ _ | refine below_alloc ?_ _ | refine below_drewN ?_ _ | refine below_drew ?_ | refine below_set ?_ (by first | exact Nat.le_refl _ | omega | (simp; done) | (simp; omega)) _)) hb4⟩; clear HB; have HB := HB'; clear HB' hb4; replace q0 := (Q0.out.to HB.out).c0; replace q1 := (Q0.out.to HB.out).c1; obtain ⟨b, hb⟩ : ∃ b, b = decide (x.val < 0) := ⟨_, rfl⟩; rw [← hb, hk0]; have HBB := Hd.mk hb; clear hb hSi hk0 hl256 hok hSl; go_upto_region 6 with (fail)
  obtain ⟨W1, hW1⟩ : ∃ W : World, W = w4.alloc (.cells #[.bool b, .slice A4 (ln x.val.natAbs) c4] 24) := ⟨_, rfl⟩; rw [← hW1]; obtain ⟨hB1, hBW1⟩ := boxes1 hW1; have HY := Hd.mk hB1; have y0 := HY.out.c0; have y1 := HY.out.c1; have HN4 := Hd.mk (hn4.to hBW1); clear hB1 hW1 hn4; have HB' : Hd (Below W0.heap.size W0 _) := ⟨bel_then (by repeat (first | exact HB.out | exact Below.refl _ _ | refine below_alloc ?_ _ | refine below_drewN ?_ _ | refine below_drew ?_ | refine below_set ?_ (by first | exact Nat.le_refl _ | omega | (simp; done) | (simp; omega)) _)) hBW1⟩; clear HB; have HB := HB'; clear HB' hBW1; replace q0 := (Q0.out.to HB.out).c0; replace q1 := (Q0.out.to HB.out).c1; have HS := Hd.mk (same_calls x.val x.val x.A x.c A4 c4 W1 (HNX.out.to (bel_then HW.out HB.out)) HN4.out); rw [← HBB.out, decide_eq_true (rfl : x.val = x.val)] at HS
  have HS2 : Hd (Calls Tryd.prog 7 #[.agg #[.bool x.neg, .slice x.A x.xs.length x.c], .agg #[.bool b, .slice A4 (ln x.val.natAbs) c4]] W1 fun e w' => e = .returned (.bool true) ∧ Below W1.heap.size W1 w') := ⟨by
   have h := HVX.out; unfold Raw.v at h; rw [h, ← HBB.out]
   exact HS.out⟩
  clear HS; go_wp2_with fail
  refine HS2.out.mono ?_; rintro e w5 ⟨rfl, hb5⟩; have HB' : Hd (Below W0.heap.size W0 _) := ⟨bel_then (by repeat (first | exact HB.out | exact Below.refl _ _ | refine below_alloc ?_ _ | refine below_drewN ?_ _ | refine below_drew ?_ | refine below_set ?_ (by first | exact Nat.le_refl _ | omega | (simp; done) | (simp; omega)) _)) hb5⟩; clear HB; have HB := HB'; clear HB' hb5; replace q0 := (Q0.out.to HB.out).c0; replace q1 := (Q0.out.to HB.out).c1; go_wp2_with fail
  go_ret
  exact ⟨rfl, bel_then HW.out HB.out⟩
 have hk0 : k = 2 := by rw [HK.out]; unfold pE; rw [if_neg hok]
 rw [hk0]; rintro e w4 ⟨A4, c4, rfl, hn4, hb4⟩; have HB' : Hd (Below W0.heap.size W0 _) := ⟨bel_then (by repeat (first | exact HB.out | exact Below.refl _ _ | refine below_alloc ?_ _ | refine below_drewN ?_ _ | refine below_drew ?_ | refine below_set ?_ (by first | exact Nat.le_refl _ | omega | (simp; done) | (simp; omega)) _)) hb4⟩; clear HB; have HB := HB'; clear HB' hb4; replace q0 := (Q0.out.to HB.out).c0; replace q1 := (Q0.out.to HB.out).c1; clear hk0 hok hn4; obtain ⟨z4, hz4⟩ : ∃ z, z = prZ (spl S).1 (spl S).2 := ⟨_, rfl⟩; obtain ⟨k4, hk4⟩ : ∃ z, z = prE (spl S).1 (spl S).2 := ⟨_, rfl⟩; rw [← hz4, ← hk4]; clear hz4 hk4; go_wp2_with fail
 go_ret
 exact ⟨rfl, bel_then HW.out (by repeat (first | exact HB.out | exact Below.refl _ _ | refine below_alloc ?_ _ | refine below_drewN ?_ _ | refine below_drew ?_ | refine below_set ?_ (by first | exact Nat.le_refl _ | omega | (simp; done) | (simp; omega)) _))⟩
end Go.Proofs.YtdfhhceboacdcaaDoor
set_option linter.unusedVariables false
namespace Go.Proofs.YtdfhhceboacdcaaDoor
open Go.ChangeShapes Go.WideShapes Go.ChangeAt Go.RowKit Go.Joins
theorem Tryd.cellsInt : Tryd.prog.cellsOf 24 = 2 := by kernel_rfl
theorem u32_nat {n : Int} (h : (Lit.int .u32 n).wf = true) : n.toNat < 4294967296 ∧ ((n.toNat : Nat) : Int) = n := by
 have h2 : 0 ≤ n ∧ n ≤ 4294967295 := by
  simp [Lit.wf, IntKind.min, IntKind.max, IntKind.signed, IntKind.bits] at h; omega
 omega
set_option maxRecDepth 100000 in
theorem open_Int {H : Type} {enc : TypeId × Value → H} {W : World} {base : Nat} {v : Value} {d : DataW H} {p : List MemPlace}
  (hv : Value.okWide Tryd.prog W .any base 24 v) (h : DataW.Trod enc Tryd.prog W 0 (fun _ => true) true 24 v d p) : ∃ r : Raw, v = r.v ∧ r.at_ W := by
 obtain ⟨c0, c1, y0, y1, m, rfl, rfl, rfl, hy0, hy1⟩ := open_agg2 Tryd.underlying24 (by kernel_rfl) Tryd.cellsInt hv h; obtain ⟨b, e0, rfl⟩ := DataW.trod_bool Tryd.underlying4 hy0; rcases open_ints Tryd.underlying22 Tryd.underlying37 (by kernel_rfl) hy1 with ⟨hcs, _⟩ | ⟨x, l, c, zs, hcs, _, hl, hm, hz, _, hcell, hwz⟩
 ·simp at e0 hcs; subst e0 hcs; exact ⟨⟨b, none, 0, []⟩, rfl, RN.nil _ _, (fun x hx => by cases hx), Nat.le_refl _, by show 0 ≤ _; omega⟩
 simp at e0 hcs; subst e0 hcs; unfold maxLen at hm; have hzl : zs.length = c := by simpa using hz
 have hlen : ((zs.take l).map Int.toNat).length = l := by rw [List.length_map, List.length_take]; omega
 refine ⟨⟨b, some x, c, (zs.take l).map Int.toNat⟩, by unfold Raw.v; rw [hlen], fun hn => ⟨x, rfl, fun j hj => ?_⟩, ?_, by show _ ≤ c; rw [hlen]; exact hl, hm⟩
 ·have hjl : j < l := by rwa [hlen] at hj
  rw [hcell j (by omega)]; have hw := (u32_nat (hwz _ (List.getElem_mem (show j < zs.length by omega)))).2; have e1 : zs.getD j 0 = zs[j] := by simp [show j < zs.length by omega]
  have e2 : ((zs.take l).map Int.toNat).getD j 0 = (zs[j]).toNat := by
   rw [List.getD_eq_getElem?_getD, List.getElem?_map, List.getElem?_take, if_pos hjl, List.getElem?_eq_getElem (show j < zs.length by omega)]; rfl
  rw [e1, e2, hw]
 intro y hy; obtain ⟨z, hzm, rfl⟩ := List.mem_map.1 hy; exact (u32_nat (hwz z (List.mem_of_mem_take hzm))).1
end Go.Proofs.YtdfhhceboacdcaaDoor
