/- Part 11 of the texts behind this claim. -/
import Derived.Lib.ConvBytes
import Derived.Lib.SmallJoins
import Derived.Test.YtdfhhceboacdcaaGreatDoorGk5
import Derived.Test.YtdfhhceboacdcaaGreatDoorGk10
set_option linter.unusedVariables false
namespace Go.Proofs.YtdfhhceboacdcaaGreatDoor
open Go.RowKit
def okT (b : Bool) (t : List UInt8) : Bool := decide (t ≠ []) && decide (t.length ≤ 2500) && !(decide (t.head? = some 48) && (decide (1 < t.length) || b)) && t.all isD && decide (ln (vald t) ≤ 256)
def sgz (b : Bool) (m : Nat) : Int := if b = true then -(m : Int) else m
def prZ (b : Bool) (t : List UInt8) : Int := if okT b t = true then sgz b (vald t) else 0
def prE (b : Bool) (t : List UInt8) : Int := if okT b t = true then 0 else 6
def spl : List UInt8 → Bool × List UInt8
 | [] => (false, [])
 | c :: t => if c = 45 then (true, t) else (false, c :: t)
theorem spl_c {c : UInt8} (h : ¬ c = 45) (t : List UInt8) : spl (c :: t) = (false, c :: t) := by simp [spl, h]
theorem pr_no {b : Bool} {t : List UInt8} (h : okT b t = false) : prZ b t = 0 ∧ prE b t = 6 := by simp [prZ, prE, h]
theorem pr_yes {b : Bool} {t : List UInt8} (h : okT b t = true) : prZ b t = sgz b (vald t) ∧ prE b t = 0 := by simp [prZ, prE, h]
theorem ln_vald (t : List UInt8) (h : t.all isD = true) : ln (vald t) ≤ t.length :=
 ln_le (Nat.lt_of_lt_of_le (vald_le t h) (Nat.pow_le_pow_left (by decide) _))
theorem retZE_err {w w' : World} (h : Below w.heap.size w w') {b : Bool} {t : List UInt8} (ho : okT b t = false) : RetZE (prZ b t) (prE b t) w (.returned (.tuple #[.agg #[.bool false, .slice none 0 0], .int .i64 6])) w' := by
 rw [(pr_no ho).1, (pr_no ho).2]; exact ⟨none, 0, by rw [show ln (Int.natAbs 0) = 0 from ln_zero]; rfl, NN.nil _ _ _ (by omega), h⟩
theorem dig_ten : dig 10 = [10] := by
 have := dig_val (xs := [10]) (by intro x hx; simp at hx; subst hx; decide) (by intro k hk; obtain rfl : k = 0 := (by simp at hk; omega); decide); simpa [val] using this
theorem ln_ten : ln 10 = 1 := by unfold ln; rw [dig_ten]; rfl
theorem nn_ten {w : World} {g : Nat} {t : TypeId} (h : Blk w g t (cells [10])) : NN w (some ⟨g, 0, none⟩) 1 10 :=
 ⟨by rw [dig_ten]; exact h.reads, by rw [ln_ten]; exact Nat.le_refl _, by omega⟩
def ParseIn (W1 : World) (t : List UInt8) (n : Nat) (s6 s45 : Value) (wr : World) : Prop :=
 ∃ (k : Nat) (A : Option Addr) (c : Nat), k ≤ n ∧ s6 = .slice A (ln (vald (t.take k))) c ∧ s45 = .int .i64 (k : Int) ∧ (t.take k).all isD = true ∧ NN wr A c (vald (t.take k)) ∧ Below W1.heap.size W1 wr
def ParseCut (w : World) (b : Bool) (t : List UInt8) (s4 s5 : Value) (wx : World) : Prop := s4 = .string ⟨t.toArray⟩ ∧ s5 = .bool b ∧ Blk wx w.heap.size 24 [.bool false, .slice none 0 0] ∧ Below w.heap.size w wx
set_option maxHeartbeats 4000000 in
set_option maxRecDepth 100000 in
theorem Parse_calls (l : List UInt8) (w : World) (hl : l.length ≤ 140737488355328) : Calls Tryz.prog 19 #[.string ⟨l.toArray⟩] w (RetZE (prZ (spl l).1 (spl l).2) (prE (spl l).1 (spl l).2) w) := by
 obtain ⟨b, hb⟩ : ∃ b, b = (spl l).1 := ⟨_, rfl⟩; obtain ⟨t, ht⟩ : ∃ t, t = (spl l).2 := ⟨_, rfl⟩; rw [← hb, ← ht]; have htl : t.length ≤ l.length := by rw [ht]; unfold spl; split <;> (try split) <;> simp
 have HTB : Hd (b = (spl l).1 ∧ t = (spl l).2) := ⟨hb, ht⟩; clear hb ht; go_enter Tryz.func19, Tryz.ntmps19
 go_upto_region 1 with (fail)
 go_cut [4, 5] (fun s4 s5 wx => ParseCut w b l s4 s5 wx)
 case first =>
  rcases l with _ | ⟨c0, l⟩
  ·go_quiet (fail)
   go_wp2_with fail
   go_meet
   exact ⟨rfl, by rw [HTB.out.1]; rfl, (blk_new (W := w) rfl [.bool false, .slice none 0 0] _).drewN _, below_drewN (below_alloc (Below.refl _ _) _) _⟩
  have hp0 : 0 < ({ data := (c0 :: l).toArray } : ByteArray).size := by show 0 < (c0 :: l).toArray.size; simp
  have hb : b = ((c0.toNat : Int) == 45) := by
   rw [HTB.out.1]; by_cases h45 : c0 = 45
   ·rw [h45]; rfl
   rw [spl_c h45]; symm
   rw [beq_eq_false_iff_ne]; intro e; apply h45; exact UInt8.toNat_inj.1 (by simpa using Int.ofNat_inj.1 e)
  have HB := Hd.mk hb; clear hb; go_quiet (fail)
  go_wp2_with fail
  go_meet
  exact ⟨rfl, by rw [HB.out]; rfl, (blk_new (W := w) rfl [.bool false, .slice none 0 0] _).drewN _, below_drewN (below_alloc (Below.refl _ _) _) _⟩
 case rest =>
  obtain ⟨rfl, rfl, hBk, hbel⟩ := hcut; obtain ⟨W0, hW0⟩ : ∃ W0 : World, W0 = wc := ⟨_, rfl⟩; subst hW0; have HBK := Hd.mk hBk; have HBL := Hd.mk hbel; clear hBk hbel; go_upto_if 18 with (fail)
  go_cut [4] (fun s4 wx => wx = W0 ∧ s4 = .string ⟨t.toArray⟩)
  case first =>
   cases b
   ·go_wp2_with fail
    go_meet
    refine ⟨rfl, ?_⟩; have h := HTB.out; rcases l with _ | ⟨c0, l⟩
    ·rw [h.2]; rfl
    by_cases h45 : c0 = 45
    ·subst h45; cases h.1
    rw [h.2, spl_c h45]
   have h := HTB.out; rcases l with _ | ⟨c0, l⟩
   ·cases h.1
   by_cases h45 : c0 = 45
   ·subst h45; have HT2 : Hd (t = l) := ⟨h.2⟩; clear h; go_wp2_with fail
    go_meet
    refine ⟨rfl, ?_⟩; rw [HT2.out]; congr 1
    apply ByteArray.ext; simp [ByteArray.extract, ByteArray.copySlice]
   rw [spl_c h45] at h; cases h.1
  case rest =>
  obtain ⟨rfl, rfl⟩ := hcut; have HK := HBK; have HB := HBL; clear HTB HBK HBL; have g0 := HK.out.c0; have g1 := HK.out.c1; have f0 := HK.out.f0; have f1 := HK.out.f1; rcases t with _ | ⟨x, r⟩
  ·go_wp2_with fail
   obtain ⟨k0, k1, k2⟩ := two_set g0 g1 (.bool false) (.slice none 0 0); refine bodyPost_ret (v := .tuple #[.agg #[.bool false, .slice none 0 0], .int .i64 6]) (by simp [results, Tryz.results19, go_sem, k0, k1]) rfl ?_; exact retZE_err (below_set (below_set HB.out (Nat.le_refl _) _) (Nat.le_refl _) _) rfl
  have hp1 : 0 < ({ data := (x :: r).toArray } : ByteArray).size := by show 0 < (x :: r).toArray.size; simp
  by_cases h25 : 2500 < r.length + 1
  ·have hno : okT b (x :: r) = false := by
    unfold okT; rw [decide_eq_false (show ¬ (x :: r).length ≤ 2500 by simp; omega)]; simp
   have h25' : (2500 : Int) < (r.length : Int) + 1 := by omega
   have HNO := Hd.mk hno; clear hno; go_wp2_with fail
   obtain ⟨k0, k1, k2⟩ := two_set g0 g1 (.bool false) (.slice none 0 0); refine bodyPost_ret (v := .tuple #[.agg #[.bool false, .slice none 0 0], .int .i64 6]) (by simp [results, Tryz.results19, go_sem, k0, k1]) rfl ?_; exact retZE_err (below_set (below_set HB.out (Nat.le_refl _) _) (Nat.le_refl _) _) HNO.out
  have h25' : ¬ (2500 : Int) < (r.length : Int) + 1 := by omega
  by_cases h48 : x = 48 ∧ (0 < r.length ∨ b = true)
  ·obtain ⟨h48, hlb⟩ := h48
   have hno : okT b (x :: r) = false := by
    unfold okT; have e1 : decide ((x :: r).head? = some 48) = true := by simp [h48]
    have e2 : (decide (1 < (x :: r).length) || b) = true := by
     rcases hlb with h | h
     ·rw [decide_eq_true (by simp; omega)]; rfl
     rw [h]; simp
    rw [e1, e2]; simp
   have hx : ((((({ data := (x :: r).toArray } : ByteArray)[0]'hp1).toNat : Nat) : Int) == 48) = true := by
    show ((x.toNat : Int) == 48) = true; rw [h48]; rfl
   have HNO := Hd.mk hno; have HX48 := Hd.mk h48; clear hno h48; by_cases h1 : 0 < r.length
   ·have h1' : (1 : Int) < (r.length : Int) + 1 := by omega
    go_wp2_with fail
    obtain ⟨k0, k1, k2⟩ := two_set g0 g1 (.bool false) (.slice none 0 0); refine bodyPost_ret (v := .tuple #[.agg #[.bool false, .slice none 0 0], .int .i64 6]) (by simp [results, Tryz.results19, go_sem, k0, k1]) rfl ?_; exact retZE_err (below_set (below_set HB.out (Nat.le_refl _) _) (Nat.le_refl _) _) HNO.out
   have h1' : ¬ (1 : Int) < (r.length : Int) + 1 := by omega
   have hbt : b = true := hlb.resolve_left h1; subst hbt; clear hlb; go_wp2_with fail
   obtain ⟨k0, k1, k2⟩ := two_set g0 g1 (.bool false) (.slice none 0 0); refine bodyPost_ret (v := .tuple #[.agg #[.bool false, .slice none 0 0], .int .i64 6]) (by simp [results, Tryz.results19, go_sem, k0, k1]) rfl ?_; exact retZE_err (below_set (below_set HB.out (Nat.le_refl _) _) (Nat.le_refl _) _) HNO.out
  have hbase : okT b (x :: r) = ((x :: r).all isD && decide (ln (vald (x :: r)) ≤ 256)) := by
   unfold okT
   have e1 : (decide ((x :: r).head? = some 48) && (decide (1 < (x :: r).length) || b)) = false := by
    rw [Bool.eq_false_iff]; intro h; apply h48; simp at h; refine ⟨h.1, ?_⟩; rcases h.2 with h | h
    ·exact .inl (by omega)
    exact .inr h
   rw [e1, decide_eq_true (show (x :: r).length ≤ 2500 by simp; omega)]; simp
  have HBASE := Hd.mk hbase; clear hbase; by_cases hx48 : x = 48
  case' pos =>
   have hx : ((((({ data := (x :: r).toArray } : ByteArray)[0]'hp1).toNat : Nat) : Int) == 48) = true := by
    show ((x.toNat : Int) == 48) = true; rw [hx48]; rfl
   have h1' : ¬ (1 : Int) < (r.length : Int) + 1 := fun h => h48 ⟨hx48, .inl (by omega)⟩
   have hbf : b = false := by cases b <;> simp_all
   clear h48 hx48; go_upto_region 7 with (fail)
   have HSG : Hd (b = true → x ≠ 48) := ⟨fun h => by rw [hbf] at h; cases h⟩; clear hbf
  case' neg =>
   have hx : ((((({ data := (x :: r).toArray } : ByteArray)[0]'hp1).toNat : Nat) : Int) == 48) = false := by
    show ((x.toNat : Int) == 48) = false; rw [beq_eq_false_iff_ne]; intro e; apply hx48; exact UInt8.toNat_inj.1 (by simpa using Int.ofNat_inj.1 e)
   clear h48; have HSG : Hd (b = true → x ≠ 48) := ⟨fun _ => hx48⟩; clear hx48; go_upto_region 7 with (fail)
  all_goals
   clear hx; try clear h1'
   obtain ⟨n, hn⟩ : ∃ n, n = r.length + 1 := ⟨_, rfl⟩; have htn : (x :: r).length = n := by rw [hn]; simp
   have HTN := Hd.mk htn; have hcv := Go.Lib.run_convert_string_bytes (P := Tryz.prog) wc 9 80 5 ⟨(x :: r).toArray⟩ Tryz.underlying9 Tryz.underlying80 Tryz.underlying5; rw [show (⟨(x :: r).toArray⟩ : ByteArray).size = n by show (x :: r).toArray.size = n; simp; exact htn] at hcv; have hbw := Go.Joins.below_bytesWorld wc.heap.size wc 5 ⟨(x :: r).toArray⟩ (Nat.le_refl _)
   have hby : ∀ k, k < n → (Go.Lib.bytesWorld wc 5 ⟨(x :: r).toArray⟩).cell? ⟨wc.heap.size, k, none⟩ = some (.int .u8 (((x :: r).getD k 0).toNat : Int)) := fun k hk => by
    have := Go.Lib.bytesWorld_cell wc 5 ⟨(x :: r).toArray⟩ k (by show k < (x :: r).toArray.size; simp; omega); simpa using this
   obtain ⟨W1, hW1⟩ : ∃ W1, W1 = Go.Lib.bytesWorld wc 5 ⟨(x :: r).toArray⟩ := ⟨_, rfl⟩; obtain ⟨cc, hcc⟩ : ∃ cc, cc = grownCap wc n 0 5 := ⟨_, rfl⟩
   rw [← hW1] at hcv hbw hby
   rw [← hcc] at hcv
   have HBY := Hd.mk hby
   have HBW := Hd.mk hbw; have hn25 : n ≤ 2500 := by omega
   have hn0 : 0 < n := by omega
   clear hW1 hcc hby hbw htn hn hp1 h25 h25'; have HBF : Hd (Below w.heap.size w W1) := ⟨bel_then HB.out HBW.out⟩; go_wp2_with fail
   go_loopw [6, 45] (fun s6 s45 wr => ParseIn W1 (x :: r) n s6 s45 wr) (fun _ s45 _ => n - (intOf s45).toNat)
   case atStart => exact ⟨0, none, 0, by omega, by rw [List.take_zero, show vald [] = 0 from rfl, ln_zero], rfl, by simp, NN.nil _ _ _ (by omega), Below.refl _ _⟩
   case round =>
    obtain ⟨k, A, c, hk, rfl, rfl, hall, hnn, hbel⟩ := hrel; have HALL := Hd.mk hall; have HN := Hd.mk hnn; have HBL := Hd.mk hbel; clear hall hnn hbel; replace g0 := (HK.out.to (bel_then HBW.out HBL.out)).c0; replace g1 := (HK.out.to (bel_then HBW.out HBL.out)).c1; replace f0 := (HK.out.to (bel_then HBW.out HBL.out)).f0; replace f1 := (HK.out.to (bel_then HBW.out HBL.out)).f1; have hlk : ln (vald ((x :: r).take k)) ≤ 2500 := Nat.le_trans (ln_vald _ HALL.out) (by rw [List.length_take]; omega); obtain ⟨m, hm⟩ : ∃ m, m = vald ((x :: r).take k) := ⟨_, rfl⟩; rw [← hm] at hlk HN ⊢; have HM := Hd.mk hm; clear hm; by_cases hlt : k < n
    ·have hcell := (HBL.out.cell (p := ⟨wc.heap.size, k, none⟩) (World.block_lt_of_cell? W1 _ (HBY.out k hlt))).trans (HBY.out k hlt); obtain ⟨d, hd⟩ : ∃ d, d = (x :: r).getD k 0 := ⟨_, rfl⟩; rw [← hd] at hcell
     have hts : (x :: r).take (k + 1) = (x :: r).take k ++ [d] := by
      have hkl : k < (x :: r).length := by rw [HTN.out]; exact hlt
      rw [List.take_succ_eq_append_getElem hkl, hd, List.getD_eq_getElem?_getD, List.getElem?_eq_getElem hkl]; rfl
     have HTS := Hd.mk hts; have HD := Hd.mk hd; obtain ⟨dn, hdn⟩ : ∃ dn : Nat, dn = d.toNat := ⟨_, rfl⟩; have hd255 : dn < 256 := by rw [hdn]; exact d.toNat_lt
     rw [← hdn] at hcell; have HDN := Hd.mk hdn; clear hts hd hdn; by_cases hdg : 48 ≤ dn ∧ dn ≤ 57
     ·obtain ⟨hd1, hd2⟩ := hdg; have hisd : isD d = true := by unfold isD; rw [← HDN.out, decide_eq_true hd1, decide_eq_true hd2]; rfl
      have HAL2 : Hd (((x :: r).take (k + 1)).all isD = true) := ⟨by rw [HTS.out, List.all_append, HALL.out]; simp [hisd]⟩; obtain ⟨dv, hdv⟩ : ∃ dv, dv = dn - 48 := ⟨_, rfl⟩; have hdv' : (dn : Int) - 48 = (dv : Int) := by omega
      obtain ⟨m1, hm1⟩ : ∃ m1, m1 = m * 10 := ⟨_, rfl⟩; have hl1 : ln m1 ≤ 2501 := by rw [hm1]; exact Nat.le_trans (ln_mul m 10) (by rw [ln_ten]; omega)
      have hl2 : ln dv ≤ 1 := ln_word (by omega); have HV2 : Hd (m1 + dv = vald ((x :: r).take (k + 1))) := ⟨by rw [HTS.out, vald_snoc, ← HM.out, ← HDN.out, hm1, hdv]⟩; have hM := mul_calls A c m (some ⟨wr.heap.size, 0, none⟩) 1 10 (wr.alloc (.cells #[.int .u32 10] 46)) (HN.out.to (below_alloc (Below.refl _ _) _)) (nn_ten (blk_new (W := wr) rfl (cells [10]) _)) (by omega) (by rw [ln_ten]; omega); rw [ln_ten, ← hm1] at hM; have HMU := Hd.mk hM; have hdl : dv < 256 := by omega
      clear hM hm1 hisd hdv; go_wp2_with fail
      refine HMU.out.mono ?_; rintro e w2 ⟨A2, c2, rfl, hn2, hb2⟩; have HN2 := Hd.mk hn2; have HB2 : Hd (Below wr.heap.size wr w2) := ⟨bel_then (below_alloc (Below.refl _ _) _) hb2⟩; clear hn2 hb2 HMU; go_wp2_with fail
      clear hdv'; refine (small_calls dv (by show dv / 4294967296 < 4294967296; omega) w2).mono ?_; rintro e w3 ⟨A3, c3, rfl, hn3, hb3⟩; have HN3 := Hd.mk hn3; have HN4 := Hd.mk (HN2.out.to hb3); have HB3 : Hd (Below wr.heap.size wr w3) := ⟨bel_then HB2.out hb3⟩; clear hn3 hb3 HN2 HB2; go_wp2_with fail
      refine (add_calls A2 c2 m1 A3 c3 dv w3 HN4.out HN3.out (by omega) (by omega)).mono ?_; rintro e w4 ⟨A4, c4, rfl, hn4, hb4⟩; have HN5 := Hd.mk hn4; have HB4 : Hd (Below wr.heap.size wr w4) := ⟨bel_then HB3.out hb4⟩; clear hn4 hb4 HN3 HN4 HB3; go_wp2_with fail
      refine ⟨⟨k + 1, A4, c4, by omega, by rw [← HV2.out], rfl, HAL2.out, by rw [← HV2.out]; exact HN5.out, bel_then HBL.out HB4.out⟩, by simp [intOf]; omega⟩
     have hno : okT b (x :: r) = false := by
      rw [HBASE.out]
      have e1 : (x :: r).all isD = false := by
       rw [List.all_eq_false]; refine ⟨d, ?_, ?_⟩
       ·have hkl : k < (x :: r).length := by rw [HTN.out]; exact hlt
        rw [HD.out, List.getD_eq_getElem?_getD, List.getElem?_eq_getElem hkl]; exact List.getElem_mem hkl
       unfold isD; rw [← HDN.out]; simp; omega
      rw [e1]; rfl
     have HNO := Hd.mk hno; clear hno; by_cases hd1 : dn < 48
     ·go_wp2_with fail
      obtain ⟨k0, k1, k2⟩ := two_set g0 g1 (.bool false) (.slice none 0 0); refine bodyPost_ret (v := .tuple #[.agg #[.bool false, .slice none 0 0], .int .i64 6]) (by simp [results, Tryz.results19, go_sem, k0, k1]) rfl ?_; exact retZE_err (below_set (below_set (bel_then HBF.out HBL.out) (Nat.le_refl _) _) (Nat.le_refl _) _) HNO.out
     have hd2 : 57 < dn := by omega
     go_wp2_with fail
     obtain ⟨k0, k1, k2⟩ := two_set g0 g1 (.bool false) (.slice none 0 0); refine bodyPost_ret (v := .tuple #[.agg #[.bool false, .slice none 0 0], .int .i64 6]) (by simp [results, Tryz.results19, go_sem, k0, k1]) rfl ?_; exact retZE_err (below_set (below_set (bel_then HBF.out HBL.out) (Nat.le_refl _) _) (Nat.le_refl _) _) HNO.out
    have hkn : k = n := by omega
    subst hkn; have htk : (x :: r).take k = x :: r := List.take_of_length_le (by rw [HTN.out]; exact Nat.le_refl _); rw [htk] at HALL HM; have hok : okT b (x :: r) = decide (ln m ≤ 256) := by rw [HBASE.out, HALL.out, HM.out]; simp
    have HOK := Hd.mk hok; clear hok htk; by_cases hf : ln m ≤ 256
    ·have hy : okT b (x :: r) = true := by rw [HOK.out]; exact decide_eq_true hf
     have HY := Hd.mk hy
     have hsgn : decide (sgz b m < 0) = b ∧ (sgz b m).natAbs = m := by
      unfold sgz; cases b
      ·simp
      have h1 := (dec_vald (x :: r) HALL.out (by simp) (.inl (by simp; exact HSG.out rfl))).2 (by simp; exact HSG.out rfl); rw [← HM.out] at h1; simp; omega
     obtain ⟨z, hz⟩ : ∃ z, z = sgz b m := ⟨_, rfl⟩; rw [← hz] at hsgn; have HZ := Hd.mk hz; clear hy hz; have hV := value_calls z A c wr (by rw [hsgn.2]; exact HN.out) (by rw [hsgn.2]; omega); rw [hsgn.1, hsgn.2] at hV; have HVV := Hd.mk hV; have HSN := Hd.mk hsgn; clear hV hsgn; go_wp2_with fail
     refine HVV.out.mono ?_; rintro e w2 ⟨A2, c2, rfl, hn2, hb2⟩; rw [HSN.out.1, HSN.out.2]; have HB2 := Hd.mk (bel_then HBL.out hb2); have HN2 := Hd.mk hn2; clear hn2 hb2 HVV; replace g0 := (HK.out.to (bel_then HBW.out HB2.out)).c0; replace g1 := (HK.out.to (bel_then HBW.out HB2.out)).c1; replace f0 := (HK.out.to (bel_then HBW.out HB2.out)).f0; replace f1 := (HK.out.to (bel_then HBW.out HB2.out)).f1; go_wp2_with fail
     obtain ⟨k0, k1, k2⟩ := two_set g0 g1 (.bool b) (.slice A2 (ln m) c2); refine bodyPost_ret (v := .tuple #[.agg #[.bool b, .slice A2 (ln m) c2], .int .i64 0]) (by simp [results, Tryz.results19, go_sem, k0, k1]) rfl ?_; rw [(pr_yes HY.out).1, (pr_yes HY.out).2, ← HM.out, ← HZ.out]; exact ⟨A2, c2, by rw [HSN.out.1, HSN.out.2], (HN2.out.set_ g0 (by intro t; simp) _).set_ k2 (by intro t; simp) _, below_set (below_set (bel_then HBF.out HB2.out) (Nat.le_refl _) _) (Nat.le_refl _) _⟩
    have hno : okT b (x :: r) = false := by rw [HOK.out]; exact decide_eq_false hf
    have hf' : (256 : Int) < (ln m : Int) := by omega
    have HNO := Hd.mk hno; clear hno; go_wp2_with fail
    obtain ⟨k0, k1, k2⟩ := two_set g0 g1 (.bool false) (.slice none 0 0); refine bodyPost_ret (v := .tuple #[.agg #[.bool false, .slice none 0 0], .int .i64 6]) (by simp [results, Tryz.results19, go_sem, k0, k1]) rfl ?_; exact retZE_err (below_set (below_set (bel_then HBF.out HBL.out) (Nat.le_refl _) _) (Nat.le_refl _) _) HNO.out
theorem spl_back (l : List UInt8) : l = sgnb (spl l).1 ++ (spl l).2 := by
 rcases l with _ | ⟨c, l⟩
 ·rfl
 by_cases h : c = 45
 ·subst h; rfl
 rw [spl_c h]; rfl
theorem itoa_sgz (b : Bool) (m : Nat) : Go.Lib.itoa (sgz b m) = (if m = 0 then [48] else sgnb b ++ Go.Lib.decDigits m) := by
 by_cases h0 : m = 0
 ·rw [if_pos h0, h0]; have : sgz b 0 = 0 := by cases b <;> rfl
  rw [this]; simp [Go.Lib.itoa, Go.Lib.decDigits]
 rw [if_neg h0]; cases b
 ·simp [sgz, Go.Lib.itoa, sgnb]
 simp only [sgz, Go.Lib.itoa, sgnb, if_true]; rw [if_pos (by omega)]; simp
theorem form_iff {b : Bool} {t : List UInt8} (hd : t.all isD = true) (hne : t ≠ []) : (Go.Lib.itoa (sgz b (vald t)) = sgnb b ++ t) ↔ ¬ (t.head? = some 48 ∧ (1 < t.length ∨ b = true)) := by
 rw [itoa_sgz]; by_cases h48 : t.head? = some 48
 ·by_cases h1 : t = [48]
  ·subst h1; have : vald [48] = 0 := rfl; rw [this, if_pos rfl]; cases b <;> simp [sgnb]
  have hlen : 1 < t.length := by
   rcases t with _ | ⟨x, _ | ⟨y, r⟩⟩
   ·exact absurd rfl hne
   ·simp at h48; exact absurd (by rw [h48]) h1
   simp
  constructor
  ·intro e; exfalso; by_cases h0 : vald t = 0
   ·rw [if_pos h0] at e; have := congrArg List.length e; simp at this; omega
   rw [if_neg h0] at e; exact dec_bad h48 h1 (List.append_cancel_left e)
  intro h; exact absurd ⟨h48, .inl hlen⟩ h
 obtain ⟨e, h0⟩ := dec_vald t hd hne (.inl h48); rw [if_neg (h0 h48), e]; exact ⟨fun _ h => h48 h.1, fun _ => rfl⟩
theorem okT_form {b : Bool} {t : List UInt8} (hd : t.all isD = true) (hne : t ≠ []) (hl : t.length ≤ 2500) : okT b t = (decide (ln (vald t) ≤ 256) && decide (Go.Lib.itoa (sgz b (vald t)) = sgnb b ++ t)) := by
 have h := form_iff (b := b) hd hne; unfold okT; rw [hd, decide_eq_true hne, decide_eq_true hl]; by_cases hf : t.head? = some 48 ∧ (1 < t.length ∨ b = true)
 ·rw [decide_eq_false (fun e => (h.1 e) hf)]
  have e2 : (decide (1 < t.length) || b) = true := by
   rcases hf.2 with h | h
   ·rw [decide_eq_true h]; rfl
   rw [h]; simp
  rw [decide_eq_true hf.1, e2]; simp
 rw [decide_eq_true (h.2 hf)]
 have e1 : (decide (t.head? = some 48) && (decide (1 < t.length) || b)) = false := by
  rw [Bool.eq_false_iff]; intro h; apply hf; simp at h; exact h
 rw [e1]; simp
theorem sgz_neg (b : Bool) (m : Nat) : decide (sgz b m < 0) = (b && decide (0 < ln m)) ∧ (sgz b m).natAbs = m := by
 have h := ln_pos (n := m); unfold sgz; cases b
 ·simp
 simp; omega
theorem dc_val {x : Nat} (h : x < 10) : (UInt8.ofNat (48 + x)).toNat = 48 + x ∧ isD (UInt8.ofNat (48 + x)) = true := by
 have e : (UInt8.ofNat (48 + x)).toNat = 48 + x := by rw [UInt8.toNat_ofNat']; omega
 refine ⟨e, ?_⟩; unfold isD; rw [e, decide_eq_true (by omega), decide_eq_true (by omega)]; rfl
theorem dec_back : ∀ m : Nat, (Go.Lib.decDigits m).all isD = true ∧ vald (Go.Lib.decDigits m) = m := by
 intro m
 induction m using Nat.strongRecOn with
 | _ m ih =>
  rw [Go.Lib.decDigits]; by_cases h : m < 10
  ·rw [dif_pos h]; obtain ⟨e1, e2⟩ := dc_val h; refine ⟨by rw [List.all_cons, e2]; rfl, ?_⟩; have := vald_snoc [] (UInt8.ofNat (48 + m)); rw [e1] at this; rw [show ([UInt8.ofNat (48 + m)] : List UInt8) = [] ++ [UInt8.ofNat (48 + m)] from rfl, this]; simp [vald]
  rw [dif_neg h]; obtain ⟨h1, h2⟩ := ih (m / 10) (by omega); obtain ⟨e1, e2⟩ := dc_val (show m % 10 < 10 by omega); refine ⟨by rw [List.all_append, h1, List.all_cons, e2]; rfl, ?_⟩; rw [vald_snoc, h2, e1]; omega
theorem pow_big (k j : Nat) (h : 32 * k ≤ 33 * j) : B ^ k ≤ 10 ^ (10 * j) := by
 have e1 : B ^ k = 2 ^ (32 * k) := by rw [Nat.pow_mul]; rfl
 rw [e1]; refine Nat.le_trans (Nat.pow_le_pow_right (by decide) h) ?_; rw [Nat.pow_mul, Nat.pow_mul]; exact Nat.pow_le_pow_left (by decide) j
theorem dec_short {m : Nat} (h : ln m ≤ 256) : (Go.Lib.decDigits m).length ≤ 2500 :=
 dec_len (k := 10 * 250) (Nat.lt_of_lt_of_le (ln_le_iff.1 h) (pow_big 256 250 (by decide))) (by decide)
theorem dec_form (b : Bool) {m : Nat} (h : ln m ≤ 256) (hb : b = true → m ≠ 0) : okT b (Go.Lib.decDigits m) = true := by
 obtain ⟨h1, h2⟩ := dec_back m; have hne : Go.Lib.decDigits m ≠ [] := by intro e; have := dec_pos m; rw [e] at this; simp at this
 rw [okT_form h1 hne (dec_short h), h2, decide_eq_true h, itoa_sgz]; by_cases h0 : m = 0
 ·cases b
  ·subst h0; rw [if_pos rfl]; simp [Go.Lib.decDigits, sgnb]
  exact absurd h0 (hb rfl)
 rw [if_neg h0]; simp
theorem spl_itoa {z : Int} (h : ln z.natAbs ≤ 256) : prZ (spl (Go.Lib.itoa z)).1 (spl (Go.Lib.itoa z)).2 = z ∧ prE (spl (Go.Lib.itoa z)).1 (spl (Go.Lib.itoa z)).2 = 0 := by
 have key : spl (Go.Lib.itoa z) = (decide (z < 0), Go.Lib.decDigits z.natAbs) := by
  unfold Go.Lib.itoa; by_cases hz : z < 0
  ·rw [if_pos hz, decide_eq_true hz]; rfl
  rw [if_neg hz, decide_eq_false hz, show z.toNat = z.natAbs by omega]; obtain ⟨h1, _⟩ := dec_back z.natAbs; have hp := dec_pos z.natAbs; rcases hd : Go.Lib.decDigits z.natAbs with _ | ⟨c, t⟩
  ·rw [hd] at hp; simp at hp
  rw [hd] at h1; refine spl_c ?_ t; intro e; subst e; simp at h1; exact absurd h1.1 (by decide)
 rw [key]; have hok := dec_form (decide (z < 0)) h (by intro e; have := of_decide_eq_true e; omega); rw [(pr_yes hok).1, (pr_yes hok).2, (dec_back z.natAbs).2]; refine ⟨?_, rfl⟩; unfold sgz; by_cases hz : z < 0
 ·rw [decide_eq_true hz]; simp; omega
 rw [decide_eq_false hz]; simp; omega
end Go.Proofs.YtdfhhceboacdcaaGreatDoor
