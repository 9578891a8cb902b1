/- Part 8 of the texts behind this claim. -/
import Derived.Lib.ConvBytes
import Derived.Lib.SmallJoins
import Derived.Test.YtdfhhceboacdcaaDoorDq4
import Derived.Test.YtdfhhceboacdcaaDoorDq5
import Derived.Test.YtdfhhceboacdcaaDoorDq7
set_option linter.unusedVariables false
namespace Go.Proofs.YtdfhhceboacdcaaDoor
open Go.RowKit
theorem rev_len {N k : Nat} (h : ln N ≤ k) : (revd N).length ≤ 10 * k :=
 revd_len (10 * k) N (Nat.lt_of_lt_of_le (ln_le_iff.1 h) (by rw [Nat.pow_mul]; exact Nat.pow_le_pow_left (by decide) k))
theorem itoa_sgn (z : Int) : Go.Lib.itoa z = if z.natAbs = 0 then [48] else sgnb (decide (z < 0)) ++ numd z.natAbs := by
 by_cases h0 : z.natAbs = 0
 ·rw [if_pos h0]; have : z = 0 := by omega
  subst this; simp [Go.Lib.itoa, Go.Lib.decDigits]
 rw [if_neg h0, numd_pos h0]; unfold Go.Lib.itoa; by_cases h : z < 0
 ·rw [if_pos h, decide_eq_true h]; rfl
 rw [if_neg h, decide_eq_false h]; have : z.toNat = z.natAbs := by omega
 rw [this]; rfl
theorem text_calls (z : Int) (A : Option Addr) (c : Nat) (w : World) (h : NN w A c z.natAbs) (l1 : ln z.natAbs ≤ 300) :
  Calls Tryd.prog 27 #[.agg #[.bool (decide (z < 0)), .slice A (ln z.natAbs) c]] w (RetS (Go.Lib.itoa z) w) := by
 rw [itoa_sgn]; by_cases h0 : z.natAbs = 0
 ·rw [if_pos h0, h0, ln_zero, decide_eq_false (by omega)]; exact text_zero A c w
 rw [if_neg h0]; exact text_pos _ _ A c w h l1 h0 (rev_len l1)
theorem rdigits_calls (z : Int) (A : Option Addr) (c : Nat) (w : World) (h : NN w A c z.natAbs) (l1 : ln z.natAbs ≤ 300) (ht : Tab w) :
  Calls Tryd.prog 21 #[.agg #[.bool (decide (z < 0)), .slice A (ln z.natAbs) c]] w (RetS (Go.Lib.itoa z) w) := by
 rw [itoa_sgn]; exact rdigits_nat _ _ A c w h l1 (by unfold numd; rw [List.length_reverse]; exact rev_len l1) ht
def pS (x : Raw) : List UInt8 := if x.ok = true then Go.Lib.itoa x.val else []
def pE (x : Raw) : Int := if x.ok = true then 0 else 2
def RetSE (l : List UInt8) (k : Int) (w : World) (e : Ending) (w' : World) : Prop := e = .returned (.tuple #[.string ⟨l.toArray⟩, .int .i64 k]) ∧ Below w.heap.size w w'
set_option maxHeartbeats 1000000 in
set_option maxRecDepth 100000 in
theorem Print_calls (x : Raw) (w : World) (hx : x.at_ w) : Calls Tryd.prog 9 #[x.v] w (RetSE (pS x) (pE x) w) := by
 have HV := Hd.mk (fun g W (h : Below w.heap.size w W) (hB : Blk W g 24 [.bool x.neg, .slice x.A x.xs.length x.c]) => valid_calls [x] g 1 W (raws_one h hx hB) rfl (by omega)); rw [all_one] at HV; unfold pS pE; by_cases hok : x.ok = true
 ·rw [if_pos hok, if_pos hok]; have hlx := Raw.ok_len hok hx.2.1; have HP := Hd.mk (fun W (hW : Below w.heap.size w W) => text_calls x.val x.A x.c W ((Raw.nn hok hx).to hW) (by omega)); rw [← (Raw.num hok hx.2.1).1] at HP; rw [hok] at HV; obtain ⟨S, hS⟩ : ∃ S, S = Go.Lib.itoa x.val := ⟨_, rfl⟩; rw [← hS] at HP ⊢; unfold Raw.v at HP ⊢; clear hx hok hlx hS; obtain ⟨b, A, c, xs⟩ := x; simp only at HP HV ⊢; obtain ⟨n, hn⟩ : ∃ n, n = xs.length := ⟨_, rfl⟩; rw [← hn] at HP HV ⊢; clear hn; go_enter Tryd.func9, Tryd.ntmps9
  go_wp2_with fail
  obtain ⟨W0, hW0⟩ : ∃ W : World, W = w.alloc (.cells #[.bool b, .slice A n c] 24) := ⟨_, rfl⟩; rw [← hW0]; have HSZ : Hd (w.heap.size + 1 = W0.heap.size) := ⟨by rw [hW0]; simp⟩; obtain ⟨hB0, hBW⟩ := boxes1 hW0; have q0 := hB0.c0; have q1 := hB0.c1; have Q0 := Hd.mk hB0; have HW := Hd.mk hBW; have HB : Hd (Below W0.heap.size W0 W0) := ⟨Below.refl _ _⟩; clear hB0 hBW hW0; refine (HV.out _ _ (bel_then HW.out (by repeat (first | exact HB.out | exact Below.refl _ _ | refine below_alloc ?_ _ | refine below_drewN ?_ _ | refine below_drew ?_ | refine below_set ?_ (by first | exact Nat.le_refl _ | omega | (simp; done) | (simp; omega)) _))) (blk_new HSZ.out _ _)).mono ?_; rintro e w1 ⟨rfl, hb1⟩; have HB' : Hd (Below W0.heap.size W0 _) := ⟨bel_then (by repeat (first | exact HB.out | exact Below.refl _ _ | refine below_alloc ?_ _ | refine below_drewN ?_ _ | refine below_drew ?_ | refine below_set ?_ (by first | exact Nat.le_refl _ | omega | (simp; done) | (simp; omega)) _)) hb1⟩; clear HB; have HB := HB'; clear HB' hb1; replace q0 := (Q0.out.to HB.out).c0; replace q1 := (Q0.out.to HB.out).c1; go_wp2_with fail
  refine (of_calls _ _ _ _ _).mono ?_; rintro e w2 ⟨rfl, hb2⟩; have HB' : Hd (Below W0.heap.size W0 _) := ⟨bel_then (by repeat (first | exact HB.out | exact Below.refl _ _ | refine below_alloc ?_ _ | refine below_drewN ?_ _ | refine below_drew ?_ | refine below_set ?_ (by first | exact Nat.le_refl _ | omega | (simp; done) | (simp; omega)) _)) hb2⟩; clear HB; have HB := HB'; clear HB' hb2; replace q0 := (Q0.out.to HB.out).c0; replace q1 := (Q0.out.to HB.out).c1; go_wp2_with fail
  refine (HP.out _ (bel_then HW.out (by repeat (first | exact HB.out | exact Below.refl _ _ | refine below_alloc ?_ _ | refine below_drewN ?_ _ | refine below_drew ?_ | refine below_set ?_ (by first | exact Nat.le_refl _ | omega | (simp; done) | (simp; omega)) _)))).mono ?_; rintro e w3 ⟨rfl, hb3⟩; have HB' : Hd (Below W0.heap.size W0 _) := ⟨bel_then (by repeat (first | exact HB.out | exact Below.refl _ _ | refine below_alloc ?_ _ | refine below_drewN ?_ _ | refine below_drew ?_ | refine below_set ?_ (by first | exact Nat.le_refl _ | omega | (simp; done) | (simp; omega)) _)) hb3⟩; clear HB; have HB := HB'; clear HB' hb3; replace q0 := (Q0.out.to HB.out).c0; replace q1 := (Q0.out.to HB.out).c1; go_wp2_with fail
  go_ret2
  exact ⟨rfl, bel_then HW.out HB.out⟩
 have hno : x.ok = false := by simpa using hok
 rw [if_neg hok, if_neg hok]; rw [hno] at HV; unfold Raw.v; clear hx hok hno; go_enter Tryd.func9, Tryd.ntmps9
 go_wp2_with fail
 obtain ⟨W0, hW0⟩ : ∃ W : World, W = w.alloc (.cells #[.bool x.neg, .slice x.A x.xs.length x.c] 24) := ⟨_, rfl⟩; rw [← hW0]; have HSZ : Hd (w.heap.size + 1 = W0.heap.size) := ⟨by rw [hW0]; simp⟩; obtain ⟨hB0, hBW⟩ := boxes1 hW0; have q0 := hB0.c0; have q1 := hB0.c1; have Q0 := Hd.mk hB0; have HW := Hd.mk hBW; have HB : Hd (Below W0.heap.size W0 W0) := ⟨Below.refl _ _⟩; clear hB0 hBW hW0; refine (HV.out _ _ (bel_then HW.out (by repeat (first | exact HB.out | exact Below.refl _ _ | refine below_alloc ?_ _ | refine below_drewN ?_ _ | refine below_drew ?_ | refine below_set ?_ (by first | exact Nat.le_refl _ | omega | (simp; done) | (simp; omega)) _))) (blk_new HSZ.out _ _)).mono ?_; rintro e w1 ⟨rfl, hb1⟩; have HB' : Hd (Below W0.heap.size W0 _) := ⟨bel_then (by repeat (first | exact HB.out | exact Below.refl _ _ | refine below_alloc ?_ _ | refine below_drewN ?_ _ | refine below_drew ?_ | refine below_set ?_ (by first | exact Nat.le_refl _ | omega | (simp; done) | (simp; omega)) _)) hb1⟩; clear HB; have HB := HB'; clear HB' hb1; replace q0 := (Q0.out.to HB.out).c0; replace q1 := (Q0.out.to HB.out).c1; go_wp2_with fail
 go_ret2
 exact ⟨rfl, bel_then HW.out HB.out⟩
set_option maxHeartbeats 1000000 in
set_option maxRecDepth 100000 in
theorem rPrint_calls (x : Raw) (w : World) (hx : x.at_ w) (ht : Tab w) : Calls Tryd.prog 10 #[x.v] w (RetSE (pS x) (pE x) w) := by
 have HV := Hd.mk (fun W (hW : Below w.heap.size w W) => rvalid_calls x W (Raw.at_to hx hW)); unfold pS pE; by_cases hok : x.ok = true
 ·rw [if_pos hok, if_pos hok]; have hlx := Raw.ok_len hok hx.2.1; have HP := Hd.mk (fun W (hW : Below w.heap.size w W) => rdigits_calls x.val x.A x.c W ((Raw.nn hok hx).to hW) (by omega) (ht.to hW)); rw [← (Raw.num hok hx.2.1).1] at HP; rw [hok] at HV; obtain ⟨S, hS⟩ : ∃ S, S = Go.Lib.itoa x.val := ⟨_, rfl⟩; rw [← hS] at HP ⊢; unfold Raw.v at HP HV ⊢; clear hx hok hlx hS; obtain ⟨b, A, c, xs⟩ := x; simp only at HP HV ⊢; obtain ⟨n, hn⟩ : ∃ n, n = xs.length := ⟨_, rfl⟩; rw [← hn] at HP HV ⊢; clear hn; go_enter Tryd.func10, Tryd.ntmps10
  go_wp2_with fail
  obtain ⟨W0, hW0⟩ : ∃ W : World, W = w.alloc (.cells #[.bool b, .slice A n c] 24) := ⟨_, rfl⟩; rw [← hW0]; have HSZ : Hd (w.heap.size + 1 = W0.heap.size) := ⟨by rw [hW0]; simp⟩; obtain ⟨hB0, hBW⟩ := boxes1 hW0; have q0 := hB0.c0; have q1 := hB0.c1; have Q0 := Hd.mk hB0; have HW := Hd.mk hBW; have HB : Hd (Below W0.heap.size W0 W0) := ⟨Below.refl _ _⟩; clear hB0 hBW hW0; refine (HV.out _ HW.out).mono ?_; rintro e w1 ⟨rfl, hb1⟩; have HB' : Hd (Below W0.heap.size W0 _) := ⟨bel_then (by repeat (first | exact HB.out | exact Below.refl _ _ | refine below_alloc ?_ _ | refine below_drewN ?_ _ | refine below_drew ?_ | refine below_set ?_ (by first | exact Nat.le_refl _ | omega | (simp; done) | (simp; omega)) _)) hb1⟩; clear HB; have HB := HB'; clear HB' hb1; replace q0 := (Q0.out.to HB.out).c0; replace q1 := (Q0.out.to HB.out).c1; go_wp2_with fail
  refine (rOf_calls _ _ _ _ _).mono ?_; rintro e w2 ⟨rfl, hb2⟩; have HB' : Hd (Below W0.heap.size W0 _) := ⟨bel_then (by repeat (first | exact HB.out | exact Below.refl _ _ | refine below_alloc ?_ _ | refine below_drewN ?_ _ | refine below_drew ?_ | refine below_set ?_ (by first | exact Nat.le_refl _ | omega | (simp; done) | (simp; omega)) _)) hb2⟩; clear HB; have HB := HB'; clear HB' hb2; replace q0 := (Q0.out.to HB.out).c0; replace q1 := (Q0.out.to HB.out).c1; go_wp2_with fail
  refine (HP.out _ (bel_then HW.out (by repeat (first | exact HB.out | exact Below.refl _ _ | refine below_alloc ?_ _ | refine below_drewN ?_ _ | refine below_drew ?_ | refine below_set ?_ (by first | exact Nat.le_refl _ | omega | (simp; done) | (simp; omega)) _)))).mono ?_; rintro e w3 ⟨rfl, hb3⟩; have HB' : Hd (Below W0.heap.size W0 _) := ⟨bel_then (by repeat (first | exact HB.out | exact Below.refl _ _ | refine below_alloc ?_ _ | refine below_drewN ?_ _ | refine below_drew ?_ | refine below_set ?_ (by first | exact Nat.le_refl _ | omega | (simp; done) | (simp; omega)) _)) hb3⟩; clear HB; have HB := HB'; clear HB' hb3; replace q0 := (Q0.out.to HB.out).c0; replace q1 := (Q0.out.to HB.out).c1; go_wp2_with fail
  go_ret2
  exact ⟨rfl, bel_then HW.out HB.out⟩
 have hno : x.ok = false := by simpa using hok
 rw [if_neg hok, if_neg hok]; rw [hno] at HV; unfold Raw.v at HV ⊢; clear hx hok hno; go_enter Tryd.func10, Tryd.ntmps10
 go_wp2_with fail
 obtain ⟨W0, hW0⟩ : ∃ W : World, W = w.alloc (.cells #[.bool x.neg, .slice x.A x.xs.length x.c] 24) := ⟨_, rfl⟩; rw [← hW0]; have HSZ : Hd (w.heap.size + 1 = W0.heap.size) := ⟨by rw [hW0]; simp⟩; obtain ⟨hB0, hBW⟩ := boxes1 hW0; have q0 := hB0.c0; have q1 := hB0.c1; have Q0 := Hd.mk hB0; have HW := Hd.mk hBW; have HB : Hd (Below W0.heap.size W0 W0) := ⟨Below.refl _ _⟩; clear hB0 hBW hW0; refine (HV.out _ HW.out).mono ?_; rintro e w1 ⟨rfl, hb1⟩; have HB' : Hd (Below W0.heap.size W0 _) := ⟨bel_then (by repeat (first | exact HB.out | exact Below.refl _ _ | refine below_alloc ?_ _ | refine below_drewN ?_ _ | refine below_drew ?_ | refine below_set ?_ (by first | exact Nat.le_refl _ | omega | (simp; done) | (simp; omega)) _)) hb1⟩; clear HB; have HB := HB'; clear HB' hb1; replace q0 := (Q0.out.to HB.out).c0; replace q1 := (Q0.out.to HB.out).c1; go_wp2_with fail
 go_ret2
 exact ⟨rfl, bel_then HW.out HB.out⟩
def okT (b : Bool) (t : List UInt8) : Bool := decide (t ≠ []) && decide (t.length ≤ 2500) && !(decide (t.head? = some 48) && (decide (1 < t.length) || b)) && t.all isD && decide (ln (vald t) ≤ 256)
def sgz (b : Bool) (m : Nat) : Int := if b = true then -(m : Int) else m
def prZ (b : Bool) (t : List UInt8) : Int := if okT b t = true then sgz b (vald t) else 0
def prE (b : Bool) (t : List UInt8) : Int := if okT b t = true then 0 else 6
def spl : List UInt8 → Bool × List UInt8
 | [] => (false, [])
 | c :: t => if c = 45 then (true, t) else (false, c :: t)
theorem spl_c {c : UInt8} (h : ¬ c = 45) (t : List UInt8) : spl (c :: t) = (false, c :: t) := by simp [spl, h]
theorem pr_no {b : Bool} {t : List UInt8} (h : okT b t = false) : prZ b t = 0 ∧ prE b t = 6 := by simp [prZ, prE, h]
theorem pr_yes {b : Bool} {t : List UInt8} (h : okT b t = true) : prZ b t = sgz b (vald t) ∧ prE b t = 0 := by simp [prZ, prE, h]
theorem ln_vald (t : List UInt8) (h : t.all isD = true) : ln (vald t) ≤ t.length :=
 ln_le (Nat.lt_of_lt_of_le (vald_le t h) (Nat.pow_le_pow_left (by decide) _))
theorem retZE_err {w w' : World} (h : Below w.heap.size w w') {b : Bool} {t : List UInt8} (ho : okT b t = false) : RetZE (prZ b t) (prE b t) w (.returned (.tuple #[.agg #[.bool false, .slice none 0 0], .int .i64 6])) w' := by
 rw [(pr_no ho).1, (pr_no ho).2]; exact ⟨none, 0, by rw [show ln (Int.natAbs 0) = 0 from ln_zero]; rfl, NN.nil _ _ _ (by omega), h⟩
theorem dig_ten : dig 10 = [10] := by
 have := dig_val (xs := [10]) (by intro x hx; simp at hx; subst hx; decide) (by intro k hk; obtain rfl : k = 0 := (by simp at hk; omega); decide); simpa [val] using this
theorem ln_ten : ln 10 = 1 := by unfold ln; rw [dig_ten]; rfl
theorem nn_ten {w : World} {g : Nat} {t : TypeId} (h : Blk w g t (cells [10])) : NN w (some ⟨g, 0, none⟩) 1 10 :=
 ⟨by rw [dig_ten]; exact h.reads, by rw [ln_ten]; exact Nat.le_refl _, by omega⟩
def ParseIn (W1 : World) (t : List UInt8) (n : Nat) (s6 s45 : Value) (wr : World) : Prop :=
 ∃ (k : Nat) (A : Option Addr) (c : Nat), k ≤ n ∧ s6 = .slice A (ln (vald (t.take k))) c ∧ s45 = .int .i64 (k : Int) ∧ (t.take k).all isD = true ∧ NN wr A c (vald (t.take k)) ∧ Below W1.heap.size W1 wr
def ParseCut (w : World) (b : Bool) (t : List UInt8) (s4 s5 : Value) (wx : World) : Prop := s4 = .string ⟨t.toArray⟩ ∧ s5 = .bool b ∧ Blk wx w.heap.size 24 [.bool false, .slice none 0 0] ∧ Below w.heap.size w wx
set_option maxHeartbeats 4000000 in
set_option maxRecDepth 100000 in
theorem Parse_calls (l : List UInt8) (w : World) (hl : l.length ≤ 140737488355328) : Calls Tryd.prog 5 #[.string ⟨l.toArray⟩] w (RetZE (prZ (spl l).1 (spl l).2) (prE (spl l).1 (spl l).2) w) := by
 obtain ⟨b, hb⟩ : ∃ b, b = (spl l).1 := ⟨_, rfl⟩; obtain ⟨t, ht⟩ : ∃ t, t = (spl l).2 := ⟨_, rfl⟩; rw [← hb, ← ht]; have htl : t.length ≤ l.length := by rw [ht]; unfold spl; split <;> (try split) <;> simp
 have HTB : Hd (b = (spl l).1 ∧ t = (spl l).2) := ⟨hb, ht⟩; clear hb ht; go_enter Tryd.func5, Tryd.ntmps5
 go_upto_region 1 with (fail)
 go_cut [4, 5] (fun s4 s5 wx => ParseCut w b l s4 s5 wx)
 case first =>
  rcases l with _ | ⟨c0, l⟩
  ·go_quiet (fail)
   go_wp2_with fail
   go_meet
   exact ⟨rfl, by rw [HTB.out.1]; rfl, (blk_new (W := w) rfl [.bool false, .slice none 0 0] _).drewN _, below_drewN (below_alloc (Below.refl _ _) _) _⟩
  have hp0 : 0 < ({ data := (c0 :: l).toArray } : ByteArray).size := by show 0 < (c0 :: l).toArray.size; simp
  have hb : b = ((c0.toNat : Int) == 45) := by
   rw [HTB.out.1]; by_cases h45 : c0 = 45
   ·rw [h45]; rfl
   rw [spl_c h45]; symm
   rw [beq_eq_false_iff_ne]; intro e; apply h45; exact UInt8.toNat_inj.1 (by simpa using Int.ofNat_inj.1 e)
  have HB := Hd.mk hb; clear hb; go_quiet (fail)
  go_wp2_with fail
  go_meet
  exact ⟨rfl, by rw [HB.out]; rfl, (blk_new (W := w) rfl [.bool false, .slice none 0 0] _).drewN _, below_drewN (below_alloc (Below.refl _ _) _) _⟩
 case rest =>
  obtain ⟨rfl, rfl, hBk, hbel⟩ := hcut; obtain ⟨W0, hW0⟩ : ∃ W0 : World, W0 = wc := ⟨_, rfl⟩; subst hW0; have HBK := Hd.mk hBk; have HBL := Hd.mk hbel; clear hBk hbel; go_upto_if 18 with (fail)
  go_cut [4] (fun s4 wx => wx = W0 ∧ s4 = .string ⟨t.toArray⟩)
  case first =>
   cases b
   ·go_wp2_with fail
    go_meet
    refine ⟨rfl, ?_⟩; have h := HTB.out; rcases l with _ | ⟨c0, l⟩
    ·rw [h.2]; rfl
    by_cases h45 : c0 = 45
    ·subst h45; cases h.1
    rw [h.2, spl_c h45]
   have h := HTB.out; rcases l with _ | ⟨c0, l⟩
   ·cases h.1
   by_cases h45 : c0 = 45
   ·subst h45; have HT2 : Hd (t = l) := ⟨h.2⟩; clear h; go_wp2_with fail
    go_meet
    refine ⟨rfl, ?_⟩; rw [HT2.out]; congr 1
    apply ByteArray.ext; simp [ByteArray.extract, ByteArray.copySlice]
   rw [spl_c h45] at h; cases h.1
  case rest =>
  obtain ⟨rfl, rfl⟩ := hcut; have HK := HBK; have HB := HBL; clear HTB HBK HBL; have g0 := HK.out.c0; have g1 := HK.out.c1; have f0 := HK.out.f0; have f1 := HK.out.f1; rcases t with _ | ⟨x, r⟩
  ·go_wp2_with fail
   obtain ⟨k0, k1, k2⟩ := two_set g0 g1 (.bool false) (.slice none 0 0); refine bodyPost_ret (v := .tuple #[.agg #[.bool false, .slice none 0 0], .int .i64 6]) (by simp [results, Tryd.results5, go_sem, k0, k1]) rfl ?_; exact retZE_err (below_set (below_set HB.out (Nat.le_refl _) _) (Nat.le_refl _) _) rfl
  have hp1 : 0 < ({ data := (x :: r).toArray } : ByteArray).size := by show 0 < (x :: r).toArray.size; simp
  by_cases h25 : 2500 < r.length + 1
  ·have hno : okT b (x :: r) = false := by
    unfold okT; rw [decide_eq_false (show ¬ (x :: r).length ≤ 2500 by simp; omega)]; simp
   have h25' : (2500 : Int) < (r.length : Int) + 1 := by omega
   have HNO := Hd.mk hno; clear hno; go_wp2_with fail
   obtain ⟨k0, k1, k2⟩ := two_set g0 g1 (.bool false) (.slice none 0 0); refine bodyPost_ret (v := .tuple #[.agg #[.bool false, .slice none 0 0], .int .i64 6]) (by simp [results, Tryd.results5, go_sem, k0, k1]) rfl ?_; exact retZE_err (below_set (below_set HB.out (Nat.le_refl _) _) (Nat.le_refl _) _) HNO.out
  have h25' : ¬ (2500 : Int) < (r.length : Int) + 1 := by omega
  by_cases h48 : x = 48 ∧ (0 < r.length ∨ b = true)
  ·obtain ⟨h48, hlb⟩ := h48
   have hno : okT b (x :: r) = false := by
    unfold okT; have e1 : decide ((x :: r).head? = some 48) = true := by simp [h48]
    have e2 : (decide (1 < (x :: r).length) || b) = true := by
     rcases hlb with h | h
     ·rw [decide_eq_true (by simp; omega)]; rfl
     rw [h]; simp
    rw [e1, e2]; simp
   have hx : ((((({ data := (x :: r).toArray } : ByteArray)[0]'hp1).toNat : Nat) : Int) == 48) = true := by
    show ((x.toNat : Int) == 48) = true; rw [h48]; rfl
   have HNO := Hd.mk hno; have HX48 := Hd.mk h48; clear hno h48; by_cases h1 : 0 < r.length
   ·have h1' : (1 : Int) < (r.length : Int) + 1 := by omega
    go_wp2_with fail
    obtain ⟨k0, k1, k2⟩ := two_set g0 g1 (.bool false) (.slice none 0 0); refine bodyPost_ret (v := .tuple #[.agg #[.bool false, .slice none 0 0], .int .i64 6]) (by simp [results, Tryd.results5, go_sem, k0, k1]) rfl ?_; exact retZE_err (below_set (below_set HB.out (Nat.le_refl _) _) (Nat.le_refl _) _) HNO.out
   have h1' : ¬ (1 : Int) < (r.length : Int) + 1 := by omega
   have hbt : b = true := hlb.resolve_left h1; subst hbt; clear hlb; go_wp2_with fail
   obtain ⟨k0, k1, k2⟩ := two_set g0 g1 (.bool false) (.slice none 0 0); refine bodyPost_ret (v := .tuple #[.agg #[.bool false, .slice none 0 0], .int .i64 6]) (by simp [results, Tryd.results5, go_sem, k0, k1]) rfl ?_; exact retZE_err (below_set (below_set HB.out (Nat.le_refl _) _) (Nat.le_refl _) _) HNO.out
  have hbase : okT b (x :: r) = ((x :: r).all isD && decide (ln (vald (x :: r)) ≤ 256)) := by
   unfold okT
   have e1 : (decide ((x :: r).head? = some 48) && (decide (1 < (x :: r).length) || b)) = false := by
    rw [Bool.eq_false_iff]; intro h; apply h48; simp at h; refine ⟨h.1, ?_⟩; rcases h.2 with h | h
    ·exact .inl (by omega)
    exact .inr h
   rw [e1, decide_eq_true (show (x :: r).length ≤ 2500 by simp; omega)]; simp
  have HBASE := Hd.mk hbase; clear hbase; by_cases hx48 : x = 48
  case' pos =>
   have hx : ((((({ data := (x :: r).toArray } : ByteArray)[0]'hp1).toNat : Nat) : Int) == 48) = true := by
    show ((x.toNat : Int) == 48) = true; rw [hx48]; rfl
   have h1' : ¬ (1 : Int) < (r.length : Int) + 1 := fun h => h48 ⟨hx48, .inl (by omega)⟩
   have hbf : b = false := by cases b <;> simp_all
   clear h48 hx48; go_upto_region 7 with (fail)
   have HSG : Hd (b = true → x ≠ 48) := ⟨fun h => by rw [hbf] at h; cases h⟩; clear hbf
  case' neg =>
   have hx : ((((({ data := (x :: r).toArray } : ByteArray)[0]'hp1).toNat : Nat) : Int) == 48) = false := by
    show ((x.toNat : Int) == 48) = false; rw [beq_eq_false_iff_ne]; intro e; apply hx48; exact UInt8.toNat_inj.1 (by simpa using Int.ofNat_inj.1 e)
   clear h48; have HSG : Hd (b = true → x ≠ 48) := ⟨fun _ => hx48⟩; clear hx48; go_upto_region 7 with (fail)
  all_goals
   clear hx; try clear h1'
   obtain ⟨n, hn⟩ : ∃ n, n = r.length + 1 := ⟨_, rfl⟩; have htn : (x :: r).length = n := by rw [hn]; simp
   have HTN := Hd.mk htn; have hcv := Go.Lib.run_convert_string_bytes (P := Tryd.prog) wc 9 35 5 ⟨(x :: r).toArray⟩ Tryd.underlying9 Tryd.underlying35 Tryd.underlying5; rw [show (⟨(x :: r).toArray⟩ : ByteArray).size = n by show (x :: r).toArray.size = n; simp; exact htn] at hcv; have hbw := Go.Joins.below_bytesWorld wc.heap.size wc 5 ⟨(x :: r).toArray⟩ (Nat.le_refl _)
   have hby : ∀ k, k < n → (Go.Lib.bytesWorld wc 5 ⟨(x :: r).toArray⟩).cell? ⟨wc.heap.size, k, none⟩ = some (.int .u8 (((x :: r).getD k 0).toNat : Int)) := fun k hk => by
    have := Go.Lib.bytesWorld_cell wc 5 ⟨(x :: r).toArray⟩ k (by show k < (x :: r).toArray.size; simp; omega); simpa using this
   obtain ⟨W1, hW1⟩ : ∃ W1, W1 = Go.Lib.bytesWorld wc 5 ⟨(x :: r).toArray⟩ := ⟨_, rfl⟩; obtain ⟨cc, hcc⟩ : ∃ cc, cc = grownCap wc n 0 5 := ⟨_, rfl⟩
   rw [← hW1] at hcv hbw hby
   rw [← hcc] at hcv
   have HBY := Hd.mk hby
   have HBW := Hd.mk hbw; have hn25 : n ≤ 2500 := by omega
   have hn0 : 0 < n := by omega
   clear hW1 hcc hby hbw htn hn hp1 h25 h25'; have HBF : Hd (Below w.heap.size w W1) := ⟨bel_then HB.out HBW.out⟩; go_wp2_with fail
   go_loopw [6, 45] (fun s6 s45 wr => ParseIn W1 (x :: r) n s6 s45 wr) (fun _ s45 _ => n - (intOf s45).toNat)
   case atStart => exact ⟨0, none, 0, by omega, by rw [List.take_zero, show vald [] = 0 from rfl, ln_zero], rfl, by simp, NN.nil _ _ _ (by omega), Below.refl _ _⟩
   case round =>
    obtain ⟨k, A, c, hk, rfl, rfl, hall, hnn, hbel⟩ := hrel; have HALL := Hd.mk hall; have HN := Hd.mk hnn; have HBL := Hd.mk hbel; clear hall hnn hbel; replace g0 := (HK.out.to (bel_then HBW.out HBL.out)).c0; replace g1 := (HK.out.to (bel_then HBW.out HBL.out)).c1; replace f0 := (HK.out.to (bel_then HBW.out HBL.out)).f0; replace f1 := (HK.out.to (bel_then HBW.out HBL.out)).f1; have hlk : ln (vald ((x :: r).take k)) ≤ 2500 := Nat.le_trans (ln_vald _ HALL.out) (by rw [List.length_take]; omega); obtain ⟨m, hm⟩ : ∃ m, m = vald ((x :: r).take k) := ⟨_, rfl⟩; rw [← hm] at hlk HN ⊢; have HM := Hd.mk hm; clear hm; by_cases hlt : k < n
    ·have hcell := (HBL.out.cell (p := ⟨wc.heap.size, k, none⟩) (World.block_lt_of_cell? W1 _ (HBY.out k hlt))).trans (HBY.out k hlt); obtain ⟨d, hd⟩ : ∃ d, d = (x :: r).getD k 0 := ⟨_, rfl⟩; rw [← hd] at hcell
     have hts : (x :: r).take (k + 1) = (x :: r).take k ++ [d] := by
      have hkl : k < (x :: r).length := by rw [HTN.out]; exact hlt
      rw [List.take_succ_eq_append_getElem hkl, hd, List.getD_eq_getElem?_getD, List.getElem?_eq_getElem hkl]; rfl
     have HTS := Hd.mk hts; have HD := Hd.mk hd; obtain ⟨dn, hdn⟩ : ∃ dn : Nat, dn = d.toNat := ⟨_, rfl⟩; have hd255 : dn < 256 := by rw [hdn]; exact d.toNat_lt
     rw [← hdn] at hcell; have HDN := Hd.mk hdn; clear hts hd hdn; by_cases hdg : 48 ≤ dn ∧ dn ≤ 57
     ·obtain ⟨hd1, hd2⟩ := hdg; have hisd : isD d = true := by unfold isD; rw [← HDN.out, decide_eq_true hd1, decide_eq_true hd2]; rfl
      have HAL2 : Hd (((x :: r).take (k + 1)).all isD = true) := ⟨by rw [HTS.out, List.all_append, HALL.out]; simp [hisd]⟩; obtain ⟨dv, hdv⟩ : ∃ dv, dv = dn - 48 := ⟨_, rfl⟩; have hdv' : (dn : Int) - 48 = (dv : Int) := by omega
      obtain ⟨m1, hm1⟩ : ∃ m1, m1 = m * 10 := ⟨_, rfl⟩; have hl1 : ln m1 ≤ 2501 := by rw [hm1]; exact Nat.le_trans (ln_mul m 10) (by rw [ln_ten]; omega)
      have hl2 : ln dv ≤ 1 := ln_word (by omega); have HV2 : Hd (m1 + dv = vald ((x :: r).take (k + 1))) := ⟨by rw [HTS.out, vald_snoc, ← HM.out, ← HDN.out, hm1, hdv]⟩; have hM := mul_calls A c m (some ⟨wr.heap.size, 0, none⟩) 1 10 (wr.alloc (.cells #[.int .u32 10] 37)) (HN.out.to (below_alloc (Below.refl _ _) _)) (nn_ten (blk_new (W := wr) rfl (cells [10]) _)) (by omega) (by rw [ln_ten]; omega); rw [ln_ten, ← hm1] at hM; have HMU := Hd.mk hM; have hdl : dv < 256 := by omega
      clear hM hm1 hisd hdv; go_wp2_with fail
      refine HMU.out.mono ?_; rintro e w2 ⟨A2, c2, rfl, hn2, hb2⟩; have HN2 := Hd.mk hn2; have HB2 : Hd (Below wr.heap.size wr w2) := ⟨bel_then (below_alloc (Below.refl _ _) _) hb2⟩; clear hn2 hb2 HMU; go_wp2_with fail
      clear hdv'; refine (small_calls dv (by show dv / 4294967296 < 4294967296; omega) w2).mono ?_; rintro e w3 ⟨A3, c3, rfl, hn3, hb3⟩; have HN3 := Hd.mk hn3; have HN4 := Hd.mk (HN2.out.to hb3); have HB3 : Hd (Below wr.heap.size wr w3) := ⟨bel_then HB2.out hb3⟩; clear hn3 hb3 HN2 HB2; go_wp2_with fail
      refine (add_calls A2 c2 m1 A3 c3 dv w3 HN4.out HN3.out (by omega) (by omega)).mono ?_; rintro e w4 ⟨A4, c4, rfl, hn4, hb4⟩; have HN5 := Hd.mk hn4; have HB4 : Hd (Below wr.heap.size wr w4) := ⟨bel_then HB3.out hb4⟩; clear hn4 hb4 HN3 HN4 HB3; go_wp2_with fail
      refine ⟨⟨k + 1, A4, c4, by omega, by rw [← HV2.out], rfl, HAL2.out, by rw [← HV2.out]; exact HN5.out, bel_then HBL.out HB4.out⟩, by simp [intOf]; omega⟩
     have hno : okT b (x :: r) = false := by
      rw [HBASE.out]
      have e1 : (x :: r).all isD = false := by
       rw [List.all_eq_false]; refine ⟨d, ?_, ?_⟩
       ·have hkl : k < (x :: r).length := by rw [HTN.out]; exact hlt
        rw [HD.out, List.getD_eq_getElem?_getD, List.getElem?_eq_getElem hkl]; exact List.getElem_mem hkl
       unfold isD; rw [← HDN.out]; simp; omega
      rw [e1]; rfl
     have HNO := Hd.mk hno; clear hno; by_cases hd1 : dn < 48
     ·go_wp2_with fail
      obtain ⟨k0, k1, k2⟩ := two_set g0 g1 (.bool false) (.slice none 0 0); refine bodyPost_ret (v := .tuple #[.agg #[.bool false, .slice none 0 0], .int .i64 6]) (by simp [results, Tryd.results5, go_sem, k0, k1]) rfl ?_; exact retZE_err (below_set (below_set (bel_then HBF.out HBL.out) (Nat.le_refl _) _) (Nat.le_refl _) _) HNO.out
     have hd2 : 57 < dn := by omega
     go_wp2_with fail
     obtain ⟨k0, k1, k2⟩ := two_set g0 g1 (.bool false) (.slice none 0 0); refine bodyPost_ret (v := .tuple #[.agg #[.bool false, .slice none 0 0], .int .i64 6]) (by simp [results, Tryd.results5, go_sem, k0, k1]) rfl ?_; exact retZE_err (below_set (below_set (bel_then HBF.out HBL.out) (Nat.le_refl _) _) (Nat.le_refl _) _) HNO.out
    have hkn : k = n := by omega
    subst hkn; have htk : (x :: r).take k = x :: r := List.take_of_length_le (by rw [HTN.out]; exact Nat.le_refl _); rw [htk] at HALL HM; have hok : okT b (x :: r) = decide (ln m ≤ 256) := by rw [HBASE.out, HALL.out, HM.out]; simp
    have HOK := Hd.mk hok; clear hok htk; by_cases hf : ln m ≤ 256
    ·have hy : okT b (x :: r) = true := by rw [HOK.out]; exact decide_eq_true hf
     have HY := Hd.mk hy
     have hsgn : decide (sgz b m < 0) = b ∧ (sgz b m).natAbs = m := by
      unfold sgz; cases b
      ·simp
      have h1 := (dec_vald (x :: r) HALL.out (by simp) (.inl (by simp; exact HSG.out rfl))).2 (by simp; exact HSG.out rfl); rw [← HM.out] at h1; simp; omega
     obtain ⟨z, hz⟩ : ∃ z, z = sgz b m := ⟨_, rfl⟩; rw [← hz] at hsgn; have HZ := Hd.mk hz; clear hy hz; have hV := value_calls z A c wr (by rw [hsgn.2]; exact HN.out) (by rw [hsgn.2]; omega); rw [hsgn.1, hsgn.2] at hV; have HVV := Hd.mk hV; have HSN := Hd.mk hsgn; clear hV hsgn; go_wp2_with fail
     refine HVV.out.mono ?_; rintro e w2 ⟨A2, c2, rfl, hn2, hb2⟩; rw [HSN.out.1, HSN.out.2]; have HB2 := Hd.mk (bel_then HBL.out hb2); have HN2 := Hd.mk hn2; clear hn2 hb2 HVV; replace g0 := (HK.out.to (bel_then HBW.out HB2.out)).c0; replace g1 := (HK.out.to (bel_then HBW.out HB2.out)).c1; replace f0 := (HK.out.to (bel_then HBW.out HB2.out)).f0; replace f1 := (HK.out.to (bel_then HBW.out HB2.out)).f1; go_wp2_with fail
     obtain ⟨k0, k1, k2⟩ := two_set g0 g1 (.bool b) (.slice A2 (ln m) c2); refine bodyPost_ret (v := .tuple #[.agg #[.bool b, .slice A2 (ln m) c2], .int .i64 0]) (by simp [results, Tryd.results5, go_sem, k0, k1]) rfl ?_; rw [(pr_yes HY.out).1, (pr_yes HY.out).2, ← HM.out, ← HZ.out]; exact ⟨A2, c2, by rw [HSN.out.1, HSN.out.2], (HN2.out.set_ g0 (by intro t; simp) _).set_ k2 (by intro t; simp) _, below_set (below_set (bel_then HBF.out HB2.out) (Nat.le_refl _) _) (Nat.le_refl _) _⟩
    have hno : okT b (x :: r) = false := by rw [HOK.out]; exact decide_eq_false hf
    have hf' : (256 : Int) < (ln m : Int) := by omega
    have HNO := Hd.mk hno; clear hno; go_wp2_with fail
    obtain ⟨k0, k1, k2⟩ := two_set g0 g1 (.bool false) (.slice none 0 0); refine bodyPost_ret (v := .tuple #[.agg #[.bool false, .slice none 0 0], .int .i64 6]) (by simp [results, Tryd.results5, go_sem, k0, k1]) rfl ?_; exact retZE_err (below_set (below_set (bel_then HBF.out HBL.out) (Nat.le_refl _) _) (Nat.le_refl _) _) HNO.out
theorem hp_spl (l : List UInt8) : Go.Lib.hasPrefix l [45] = (spl l).1 ∧ Go.Lib.trimPrefix l [45] = (spl l).2 := by
 rcases l with _ | ⟨c, l⟩
 ·exact ⟨rfl, rfl⟩
 by_cases h : c = 45
 ·subst h; exact ⟨by simp [Go.Lib.hasPrefix, spl], by simp [Go.Lib.trimPrefix, Go.Lib.hasPrefix, spl]⟩
 rw [spl_c h]; have h2 : ((45 : UInt8) == c) = false := beq_eq_false_iff_ne.2 fun e => h e.symm
 have h3 : Go.Lib.hasPrefix (c :: l) [45] = false := by show ((45 == c) && _) = false; rw [h2]; rfl
 exact ⟨h3, by unfold Go.Lib.trimPrefix; rw [h3]; rfl⟩
theorem spl_back (l : List UInt8) : l = sgnb (spl l).1 ++ (spl l).2 := by
 rcases l with _ | ⟨c, l⟩
 ·rfl
 by_cases h : c = 45
 ·subst h; rfl
 rw [spl_c h]; rfl
theorem itoa_sgz (b : Bool) (m : Nat) : Go.Lib.itoa (sgz b m) = (if m = 0 then [48] else sgnb b ++ Go.Lib.decDigits m) := by
 by_cases h0 : m = 0
 ·rw [if_pos h0, h0]; have : sgz b 0 = 0 := by cases b <;> rfl
  rw [this]; simp [Go.Lib.itoa, Go.Lib.decDigits]
 rw [if_neg h0]; cases b
 ·simp [sgz, Go.Lib.itoa, sgnb]
 simp only [sgz, Go.Lib.itoa, sgnb, if_true]; rw [if_pos (by omega)]; simp
theorem form_iff {b : Bool} {t : List UInt8} (hd : t.all isD = true) (hne : t ≠ []) : (Go.Lib.itoa (sgz b (vald t)) = sgnb b ++ t) ↔ ¬ (t.head? = some 48 ∧ (1 < t.length ∨ b = true)) := by
 rw [itoa_sgz]; by_cases h48 : t.head? = some 48
 ·by_cases h1 : t = [48]
  ·subst h1; have : vald [48] = 0 := rfl; rw [this, if_pos rfl]; cases b <;> simp [sgnb]
  have hlen : 1 < t.length := by
   rcases t with _ | ⟨x, _ | ⟨y, r⟩⟩
   ·exact absurd rfl hne
   ·simp at h48; exact absurd (by rw [h48]) h1
   simp
  constructor
  ·intro e; exfalso; by_cases h0 : vald t = 0
   ·rw [if_pos h0] at e; have := congrArg List.length e; simp at this; omega
   rw [if_neg h0] at e; exact dec_bad h48 h1 (List.append_cancel_left e)
  intro h; exact absurd ⟨h48, .inl hlen⟩ h
 obtain ⟨e, h0⟩ := dec_vald t hd hne (.inl h48); rw [if_neg (h0 h48), e]; exact ⟨fun _ h => h48 h.1, fun _ => rfl⟩
theorem okT_form {b : Bool} {t : List UInt8} (hd : t.all isD = true) (hne : t ≠ []) (hl : t.length ≤ 2500) : okT b t = (decide (ln (vald t) ≤ 256) && decide (Go.Lib.itoa (sgz b (vald t)) = sgnb b ++ t)) := by
 have h := form_iff (b := b) hd hne; unfold okT; rw [hd, decide_eq_true hne, decide_eq_true hl]; by_cases hf : t.head? = some 48 ∧ (1 < t.length ∨ b = true)
 ·rw [decide_eq_false (fun e => (h.1 e) hf)]
  have e2 : (decide (1 < t.length) || b) = true := by
   rcases hf.2 with h | h
   ·rw [decide_eq_true h]; rfl
   rw [h]; simp
  rw [decide_eq_true hf.1, e2]; simp
 rw [decide_eq_true (h.2 hf)]
 have e1 : (decide (t.head? = some 48) && (decide (1 < t.length) || b)) = false := by
  rw [Bool.eq_false_iff]; intro h; apply hf; simp at h; exact h
 rw [e1]; simp
theorem sgz_neg (b : Bool) (m : Nat) : decide (sgz b m < 0) = (b && decide (0 < ln m)) ∧ (sgz b m).natAbs = m := by
 have h := ln_pos (n := m); unfold sgz; cases b
 ·simp
 simp; omega
set_option maxHeartbeats 1000000 in
set_option maxRecDepth 100000 in
theorem rParse_calls (l : List UInt8) (w : World) (hl : l.length ≤ 140737488355328) (htab : Tab w) : Calls Tryd.prog 6 #[.string ⟨l.toArray⟩] w (RetZE (prZ (spl l).1 (spl l).2) (prE (spl l).1 (spl l).2) w) := by
 have hcp := Go.Proofs.Tryd.strings_CutPrefix ⟨l.toArray⟩ { data := #[45] } (w.alloc (.cells #[.bool false, .slice none 0 0] 24)); have e1 : ({ data := l.toArray } : ByteArray).data.toList = l := by simp
 have e2 : ({ data := #[45] } : ByteArray).data.toList = [45] := rfl; rw [e1, e2, (hp_spl l).1, (hp_spl l).2] at hcp; obtain ⟨b, hb⟩ : ∃ b, b = (spl l).1 := ⟨_, rfl⟩; obtain ⟨t, ht⟩ : ∃ t, t = (spl l).2 := ⟨_, rfl⟩; have hsb := spl_back l; rw [← hb, ← ht] at hcp hsb ⊢; have htl : t.length ≤ l.length := by rw [hsb, List.length_append]; omega
 have HSB := Hd.mk hsb; have HCP := Hd.mk hcp; have HTAB := Hd.mk htab; clear hb ht hsb hcp e1 e2 htab; go_enter Tryd.func6, Tryd.ntmps6
 go_wp2_with fail
 refine HCP.out.mono ?_; rintro e W0 ⟨rfl, rfl⟩; obtain ⟨W0, hW0⟩ : ∃ W0 : World, W0 = (w.alloc (.cells #[.bool false, .slice none 0 0] 24)) := ⟨_, rfl⟩; have HK : Hd (Blk W0 w.heap.size 24 [.bool false, .slice none 0 0]) := ⟨by rw [hW0]; exact blk_new rfl [.bool false, .slice none 0 0] _⟩; have HB : Hd (Below w.heap.size w W0) := ⟨by rw [hW0]; exact below_alloc (Below.refl _ _) _⟩; rw [← hW0]; clear hW0 HCP; have g0 := HK.out.c0; have g1 := HK.out.c1; have f0 := HK.out.f0; have f1 := HK.out.f1; by_cases hlen : t.length < 1 ∨ 2500 < t.length
 ·have hno : okT b t = false := by
   unfold okT; rcases hlen with h | h
   ·rw [decide_eq_false (show ¬ t ≠ [] by intro h2; exact h2 (List.eq_nil_of_length_eq_zero (by omega)))]; rfl
   rw [decide_eq_false (show ¬ t.length ≤ 2500 by omega)]; simp
  have HNO := Hd.mk hno; clear hno; by_cases h1 : t.length < 1
  ·have h1' : (t.length : Int) < 1 := by omega
   clear hlen; go_wp2_with fail
   obtain ⟨k0, k1, k2⟩ := two_set g0 g1 (.bool false) (.slice none 0 0); refine bodyPost_ret (v := .tuple #[.agg #[.bool false, .slice none 0 0], .int .i64 6]) (by simp [results, Tryd.results6, go_sem, k0, k1]) rfl ?_; exact retZE_err (below_set (below_set HB.out (Nat.le_refl _) _) (Nat.le_refl _) _) HNO.out
  have h1' : ¬ (t.length : Int) < 1 := by omega
  have h2' : (2500 : Int) < (t.length : Int) := by omega
  clear hlen; go_wp2_with fail
  obtain ⟨k0, k1, k2⟩ := two_set g0 g1 (.bool false) (.slice none 0 0); refine bodyPost_ret (v := .tuple #[.agg #[.bool false, .slice none 0 0], .int .i64 6]) (by simp [results, Tryd.results6, go_sem, k0, k1]) rfl ?_; exact retZE_err (below_set (below_set HB.out (Nat.le_refl _) _) (Nat.le_refl _) _) HNO.out
 have h1' : ¬ (t.length : Int) < 1 := by omega
 have h2' : ¬ (2500 : Int) < (t.length : Int) := by omega
 have hn0 : 0 < t.length := by omega
 have hn25 : t.length ≤ 2500 := by omega
 clear hlen; go_wp2_with fail
 go_loopw [6, 25] (fun s6 s25 wr => ParseIn W0 t t.length s6 s25 wr) (fun _ s25 _ => t.length - (intOf s25).toNat)
 case atStart => exact ⟨0, none, 0, by omega, by rw [List.take_zero, show vald [] = 0 from rfl, ln_zero], rfl, by simp, NN.nil _ _ _ (by omega), Below.refl _ _⟩
 case round =>
  obtain ⟨k, A, c, hk, rfl, rfl, hall, hnn, hbel⟩ := hrel; have HALL := Hd.mk hall; have HN := Hd.mk hnn; have HBL := Hd.mk hbel; clear hall hnn hbel; replace g0 := (HK.out.to HBL.out).c0; replace g1 := (HK.out.to HBL.out).c1; replace f0 := (HK.out.to HBL.out).f0; replace f1 := (HK.out.to HBL.out).f1; have hlk : ln (vald (t.take k)) ≤ 2500 := Nat.le_trans (ln_vald _ HALL.out) (by rw [List.length_take]; omega); obtain ⟨m, hm⟩ : ∃ m, m = vald (t.take k) := ⟨_, rfl⟩; rw [← hm] at hlk HN ⊢; have HM := Hd.mk hm; clear hm; by_cases hlt : k < t.length
  ·obtain ⟨d, hd⟩ : ∃ d, d = t[k] := ⟨_, rfl⟩; have hts : t.take (k + 1) = t.take k ++ [d] := by rw [List.take_succ_eq_append_getElem hlt, hd]
   have hkz : k < ({ data := t.toArray } : ByteArray).size := by show k < t.toArray.size; simpa using hlt
   obtain ⟨dn, hdn⟩ : ∃ dn : Nat, dn = d.toNat := ⟨_, rfl⟩; have hd255 : dn < 256 := by rw [hdn]; exact d.toNat_lt
   have hidx : (({ data := t.toArray } : ByteArray)[k]'hkz).toNat = dn := by rw [hdn, hd]; rfl
   have HTS := Hd.mk hts; have HD := Hd.mk hd; have HDN := Hd.mk hdn; clear hts hd hdn; by_cases hdg : 48 ≤ dn ∧ dn ≤ 57
   ·obtain ⟨hd1, hd2⟩ := hdg; have hisd : isD d = true := by unfold isD; rw [← HDN.out, decide_eq_true hd1, decide_eq_true hd2]; rfl
    have HAL2 : Hd ((t.take (k + 1)).all isD = true) := ⟨by rw [HTS.out, List.all_append, HALL.out]; simp [hisd]⟩; obtain ⟨dv, hdv⟩ : ∃ dv, dv = dn - 48 := ⟨_, rfl⟩; have hdv' : (dn : Int) - 48 = (dv : Int) := by omega
    obtain ⟨m1, hm1⟩ : ∃ m1, m1 = m * 10 := ⟨_, rfl⟩; have hl1 : ln m1 ≤ 2501 := by rw [hm1]; exact Nat.le_trans (ln_mul m 10) (by rw [ln_ten]; omega)
    have hl2 : ln dv ≤ 1 := ln_word (by omega); have HV2 : Hd (m1 + dv = vald (t.take (k + 1))) := ⟨by rw [HTS.out, vald_snoc, ← HM.out, ← HDN.out, hm1, hdv]⟩; have HMU : Hd (∀ W, Below wr.heap.size wr W → Calls Tryd.prog 17 #[.slice A (ln m) c, .int .u32 10] W (RetN m1 W)) := ⟨fun W hW => by rw [hm1]; exact rsmall_calls A c m 10 W (HN.out.to hW) (by omega) (by omega)⟩; have HNA := Hd.mk (fun W => natural_calls dv (by omega) W); have HPL := Hd.mk (fun A1 c1 A2 c2 W h1 h2 => rplus_calls A1 c1 m1 A2 c2 dv W h1 h2 (by omega) (by omega)); have hdl : dv < 256 := by omega
    have hw8 : IntKind.u8.wrap (dv : Int) = (dv : Int) := by simp [IntKind.wrap, IntKind.bits, IntKind.signed]; omega
    have hw64 : IntKind.u64.wrap (dv : Int) = (dv : Int) := by simp [IntKind.wrap, IntKind.bits, IntKind.signed]; omega
    clear hm1 hisd hdv; go_upto_region 10 with (fail)
    have HBC : Hd (Below wr.heap.size wr wr) := ⟨Below.refl _ _⟩
    go_region_with (first
     | (go_at_call 17; (with_reducible refine (HMU.out _ (by first | exact HBC.out | exact below_drew HBC.out | exact below_drewN HBC.out _)).mono ?_); rintro e w2 ⟨A2, c2, rfl, hn2, hb2⟩; have HX2 := Hd.mk hn2; (try replace HX3 := Hd.mk (HX3.out.to hb2)); (replace HBC := Hd.mk (bel_then (by first | exact HBC.out | exact below_drew HBC.out | exact below_drewN HBC.out _) hb2)); clear hn2 hb2)
     | (go_at_call 18; (with_reducible refine (HNA.out _).mono ?_); rintro e w3 ⟨A3, c3, rfl, hn3, hb3⟩; have HX3 := Hd.mk hn3; (try replace HX2 := Hd.mk (HX2.out.to hb3)); (replace HBC := Hd.mk (bel_then (by first | exact HBC.out | exact below_drew HBC.out | exact below_drewN HBC.out _) hb3)); clear hn3 hb3)
     | (go_at_call 16; (with_reducible refine (HPL.out _ _ _ _ _ HX2.out HX3.out).mono ?_); rintro e w4 ⟨A4, c4, rfl, hn4, hb4⟩; have HX4 := Hd.mk hn4; (replace HBC := Hd.mk (bel_then (by first | exact HBC.out | exact below_drew HBC.out | exact below_drewN HBC.out _) hb4)); clear hn4 hb4))
    all_goals
     go_wp2_with fail
     refine ⟨⟨k + 1, A4, c4, by omega, by rw [← HV2.out], rfl, HAL2.out, by rw [← HV2.out]; exact HX4.out, bel_then HBL.out HBC.out⟩, by simp [intOf]; omega⟩
   have hno : okT b t = false := by
    have e1 : t.all isD = false := by
     rw [List.all_eq_false]; refine ⟨d, by rw [HD.out]; exact List.getElem_mem hlt, ?_⟩; unfold isD; rw [← HDN.out]; simp; omega
    unfold okT; rw [e1]; simp
   have HNO := Hd.mk hno; clear hno; by_cases hd1 : dn < 48
   ·go_wp2_with fail
    obtain ⟨k0, k1, k2⟩ := two_set g0 g1 (.bool false) (.slice none 0 0); refine bodyPost_ret (v := .tuple #[.agg #[.bool false, .slice none 0 0], .int .i64 6]) (by simp [results, Tryd.results6, go_sem, k0, k1]) rfl ?_; exact retZE_err (below_set (below_set (bel_then HB.out HBL.out) (Nat.le_refl _) _) (Nat.le_refl _) _) HNO.out
   have hd2 : 57 < dn := by omega
   go_wp2_with fail
   obtain ⟨k0, k1, k2⟩ := two_set g0 g1 (.bool false) (.slice none 0 0); refine bodyPost_ret (v := .tuple #[.agg #[.bool false, .slice none 0 0], .int .i64 6]) (by simp [results, Tryd.results6, go_sem, k0, k1]) rfl ?_; exact retZE_err (below_set (below_set (bel_then HB.out HBL.out) (Nat.le_refl _) _) (Nat.le_refl _) _) HNO.out
  have hkn : k = t.length := by omega
  have htk : t.take k = t := List.take_of_length_le (by omega); rw [htk] at HALL HM; have hok := okT_form (b := b) HALL.out (by intro h; rw [h] at hn0; simp at hn0) hn25; rw [← HM.out, ← HSB.out] at hok; have HOK := Hd.mk hok; have HSG := Hd.mk (sgz_neg b m); clear hok htk; obtain ⟨b2, hb2⟩ : ∃ b2, b2 = decide (sgz b m < 0) := ⟨_, rfl⟩; have HB2 := Hd.mk hb2; have HSI := Hd.mk (signed_calls b b2 A (ln m) c wr (by omega) (by rw [hb2]; exact HSG.out.1.symm)); clear hb2; go_wp2_with fail
  refine HSI.out.mono ?_; rintro e w2 ⟨rfl, hb3⟩; have HBM := Hd.mk (bel_then HBL.out hb3); have HN2 := Hd.mk (HN.out.to hb3); clear hb3 HSI; go_wp2_with fail
  obtain ⟨W3, hW3⟩ : ∃ W : World, W = w2.alloc (.cells #[.bool b2, .slice A (ln m) c] 50) := ⟨_, rfl⟩; rw [← hW3]; obtain ⟨hB3, hBW3⟩ := boxes1 hW3; have HZ3 := Hd.mk hB3; have HN3 := Hd.mk (HN2.out.to hBW3); have HB3 := Hd.mk (bel_then HBM.out hBW3); have q0 := hB3.c0; have q1 := hB3.c1; clear hB3 hBW3 hW3 HN2 HBM; replace g0 := (HK.out.to HB3.out).c0; replace g1 := (HK.out.to HB3.out).c1; replace f0 := (HK.out.to HB3.out).f0; replace f1 := (HK.out.to HB3.out).f1; refine (rFits_calls b2 A (ln m) c W3 (by omega)).mono ?_; rintro e w4 ⟨rfl, hb4⟩; replace HB3 := Hd.mk (bel_then HB3.out hb4); replace HN3 := Hd.mk (HN3.out.to hb4); replace HZ3 := Hd.mk (HZ3.out.to hb4); clear hb4; replace q0 := HZ3.out.c0; replace q1 := HZ3.out.c1; replace g0 := (HK.out.to HB3.out).c0; replace g1 := (HK.out.to HB3.out).c1; replace f0 := (HK.out.to HB3.out).f0; replace f1 := (HK.out.to HB3.out).f1; by_cases hf : ln m ≤ 256
  ·rw [decide_eq_true hf]; have HDI := Hd.mk (fun W (hW : Below w4.heap.size w4 W) => rdigits_calls (sgz b m) A c W (by rw [HSG.out.2]; exact HN3.out.to hW) (by rw [HSG.out.2]; omega) (HTAB.out.to (bel_then HB.out (bel_then HB3.out hW)))); rw [← HB2.out, HSG.out.2] at HDI; obtain ⟨S, hS⟩ : ∃ S, S = Go.Lib.itoa (sgz b m) := ⟨_, rfl⟩; rw [← hS] at HDI HOK; have HS := Hd.mk hS; clear hS; go_wp2_with fail
   refine (HDI.out _ (Below.refl _ _)).mono ?_; rintro e w5 ⟨rfl, hb5⟩; replace HB3 := Hd.mk (bel_then HB3.out hb5); replace HN3 := Hd.mk (HN3.out.to hb5); replace HZ3 := Hd.mk (HZ3.out.to hb5); clear hb5 HDI; replace q0 := HZ3.out.c0; replace q1 := HZ3.out.c1; replace g0 := (HK.out.to HB3.out).c0; replace g1 := (HK.out.to HB3.out).c1; replace f0 := (HK.out.to HB3.out).f0; replace f1 := (HK.out.to HB3.out).f1; by_cases hsl : S = l
   ·have hsb : (S == l) = true := by rw [hsl]; exact beq_self_eq_true l
    have hy : okT b t = true := by rw [HOK.out, decide_eq_true hf, decide_eq_true hsl]; rfl
    have HY := Hd.mk hy; have HSL := Hd.mk hsl; clear hy hsl; go_wp2_with fail
    refine (rInt_calls b2 A (ln m) c w5).mono ?_; rintro e w6 ⟨rfl, hb6⟩; replace HB3 := Hd.mk (bel_then HB3.out hb6); replace HN3 := Hd.mk (HN3.out.to hb6); clear hb6; replace g0 := (HK.out.to HB3.out).c0; replace g1 := (HK.out.to HB3.out).c1; replace f0 := (HK.out.to HB3.out).f0; replace f1 := (HK.out.to HB3.out).f1; go_wp2_with fail
    obtain ⟨k0, k1, k2⟩ := two_set g0 g1 (.bool b2) (.slice A (ln m) c); refine bodyPost_ret (v := .tuple #[.agg #[.bool b2, .slice A (ln m) c], .int .i64 0]) (by simp [results, Tryd.results6, go_sem, k0, k1]) rfl ?_; rw [(pr_yes HY.out).1, (pr_yes HY.out).2, ← HM.out]; exact ⟨A, c, by rw [← HB2.out, HSG.out.2], by rw [HSG.out.2]; exact (HN3.out.set_ g0 (by intro t; simp) _).set_ k2 (by intro t; simp) _, below_set (below_set (bel_then HB.out HB3.out) (Nat.le_refl _) _) (Nat.le_refl _) _⟩
   have hsb : (S == l) = false := beq_eq_false_iff_ne.2 hsl; have hno : okT b t = false := by rw [HOK.out, decide_eq_false hsl]; simp
   have HNO := Hd.mk hno; have HSL := Hd.mk hsl; clear hno hsl; go_wp2_with fail
   obtain ⟨k0, k1, k2⟩ := two_set g0 g1 (.bool false) (.slice none 0 0); refine bodyPost_ret (v := .tuple #[.agg #[.bool false, .slice none 0 0], .int .i64 6]) (by simp [results, Tryd.results6, go_sem, k0, k1]) rfl ?_; exact retZE_err (below_set (below_set (bel_then HB.out HB3.out) (Nat.le_refl _) _) (Nat.le_refl _) _) HNO.out
  have hno : okT b t = false := by rw [HOK.out, decide_eq_false hf]; rfl
  have HNO := Hd.mk hno; rw [decide_eq_false hf]; clear hno; go_wp2_with fail
  obtain ⟨k0, k1, k2⟩ := two_set g0 g1 (.bool false) (.slice none 0 0); refine bodyPost_ret (v := .tuple #[.agg #[.bool false, .slice none 0 0], .int .i64 6]) (by simp [results, Tryd.results6, go_sem, k0, k1]) rfl ?_; exact retZE_err (below_set (below_set (bel_then HB.out HB3.out) (Nat.le_refl _) _) (Nat.le_refl _) _) HNO.out
theorem dig_aw : dig (val [0, 0, 1]) = [0, 0, 1] := by
 refine dig_val (fun x hx => ?_) (fun k hk => ?_)
 ·simp at hx; rcases hx with rfl | rfl <;> decide
 have : k = 2 := by simp at hk; omega
 subst this; decide
theorem ln_aw : ln (val [0, 0, 1]) = 3 := by unfold ln; rw [dig_aw]; rfl
def awz : Int := ((val [0, 0, 1] : Nat) : Int)
theorem awz_ln : ln awz.natAbs = 3 := by unfold awz; rw [Int.natAbs_natCast, ln_aw]
theorem awz_nonneg : decide (awz < 0) = false := decide_eq_false (by unfold awz; omega)
theorem awz_opz (A : Option Addr) (c : Nat) : opz ⟨false, A, c, [0, 1]⟩ ⟨false, A, c, [0, 1]⟩ (Raw.val ⟨false, A, c, [0, 1]⟩ * Raw.val ⟨false, A, c, [0, 1]⟩) = awz ∧ ope ⟨false, A, c, [0, 1]⟩ ⟨false, A, c, [0, 1]⟩ (Raw.val ⟨false, A, c, [0, 1]⟩ * Raw.val ⟨false, A, c, [0, 1]⟩) = 0 := by
 have e : Raw.val ⟨false, A, c, [0, 1]⟩ * Raw.val ⟨false, A, c, [0, 1]⟩ = awz := by
  unfold Raw.val awz; simp [val, B]
 have ho : Raw.ok ⟨false, A, c, [0, 1]⟩ = true := rfl; rw [e]; unfold opz ope fitz fite; rw [ho, awz_ln]; exact ⟨rfl, rfl⟩
theorem awz_nn {w : World} {g : Nat} {t : TypeId} (h : Blk w g t (cells [0, 0, 1])) : NN w (some ⟨g, 0, none⟩) 3 awz.natAbs := by
 have e : awz.natAbs = val [0, 0, 1] := by unfold awz; rw [Int.natAbs_natCast]
 rw [e]; exact ⟨by rw [dig_aw]; exact h.reads, by rw [ln_aw]; exact Nat.le_refl _, by omega⟩
set_option maxRecDepth 100000 in
theorem awake_calls (w : World) : Calls Tryd.prog 8 #[] w fun e w' => e = .returned (.bool true) ∧ Below w.heap.size w w' := by
 go_enter Tryd.func8, Tryd.ntmps8
 go_wp2_with fail
 obtain ⟨W0, hW0⟩ : ∃ W : World, W = (w.alloc (.cells #[.int .u32 0, .int .u32 1] 37)).alloc (.cells #[.bool false, .slice (some ⟨w.heap.size, 0, none⟩) 2 2] 24) := ⟨_, rfl⟩; rw [← hW0]; obtain ⟨hB0, hB1, hBW⟩ := boxes2 hW0; have HB1 := Hd.mk hB1; have HW := Hd.mk hBW; have ha : Raw.at_ ⟨false, some ⟨w.heap.size, 0, none⟩, 2, [0, 1]⟩ W0 := ⟨Blk.reads (ds := [0, 1]) hB0, by intro x hx; simp at hx; rcases hx with rfl | rfl <;> decide, Nat.le_refl _, by show (2 : Nat) ≤ 9223372036854775807; omega⟩; have hm := Mul_calls _ _ W0 ha ha; rw [(awz_opz _ _).1, (awz_opz _ _).2] at hm; have HM : Hd (Calls Tryd.prog _ #[.agg #[.bool false, .slice (some ⟨w.heap.size, 0, none⟩) 2 2], .agg #[.bool false, .slice (some ⟨w.heap.size, 0, none⟩) 2 2]] W0 (RetZE awz 0 W0)) := ⟨hm⟩; clear hW0 hB0 hB1 hBW ha hm; refine HM.out.mono ?_; rintro e w1 ⟨A4, c4, rfl, hn4, hb1⟩; have HS := Hd.mk (fun W g (hW : Below w1.heap.size w1 W) (hB : Blk W g 37 (cells [0, 0, 1])) => same_calls awz awz A4 c4 (some ⟨g, 0, none⟩) 3 W (hn4.to hW) (awz_nn hB)); rw [awz_ln, awz_nonneg] at HS; rw [awz_ln, awz_nonneg]; have HBB := Hd.mk (bel_then HW.out hb1); clear hn4 hb1 HM; go_wp2_with fail
 refine (HS.out _ _ (by repeat (first | exact Below.refl _ _ | refine below_alloc ?_ _ | refine below_set ?_ (by first | exact Nat.le_refl _ | omega | (simp; done) | (simp; omega)) _)) (blk_new (by simp) _ _)).mono ?_; rintro e w2 ⟨rfl, hb2⟩; have HB2 := Hd.mk hb2; clear hb2; go_wp2_with fail
 go_ret
 refine ⟨by simp, bel_then HBB.out ?_⟩; refine bel_then ?_ HB2.out; repeat (first | exact Below.refl _ _ | refine below_alloc ?_ _ | refine below_set ?_ (by first | exact Nat.le_refl _ | omega | (simp; done) | (simp; omega)) _)
end Go.Proofs.YtdfhhceboacdcaaDoor
