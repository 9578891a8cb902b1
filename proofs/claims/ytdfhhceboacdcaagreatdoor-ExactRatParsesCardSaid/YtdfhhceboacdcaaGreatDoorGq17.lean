/- Part 17 of the texts behind this claim. -/
import Derived.Test.YtdfhhceboacdcaaGreatDoorGq6
import Derived.Test.YtdfhhceboacdcaaGreatDoorGq11
import Derived.Test.YtdfhhceboacdcaaGreatDoorGq12
import Derived.Test.YtdfhhceboacdcaaGreatDoorGq16
set_option linter.unusedVariables false
set_option linter.unusedSimpArgs false
namespace Go.Proofs.YtdfhhceboacdcaaGreatDoor
open Go.RowKit
def RQ.cs (f : RQ) : List Value := [.bool f.n.neg, .slice f.n.A f.n.xs.length f.n.c, .bool f.d.neg, .slice f.d.A f.d.xs.length f.d.c]
def RQ.v (f : RQ) : Value := .agg #[.bool f.n.neg, .slice f.n.A f.n.xs.length f.n.c, .bool f.d.neg, .slice f.d.A f.d.xs.length f.d.c]
def RQ.at_ (f : RQ) (w : World) : Prop := f.n.at_ w ∧ f.d.at_ w
theorem RQ.to {f : RQ} {w w' : World} (h : f.at_ w) (hb : Below w.heap.size w w') : f.at_ w' := ⟨Raw.at_to h.1 hb, Raw.at_to h.2 hb⟩
theorem RQ.isL {f : RQ} {w : World} (h : f.at_ w) : (isL [rC f.n, rC f.d]).p f.v w := isL_two.2 ⟨_, _, _, _, rfl, ⟨rfl, rfl, h.1⟩, ⟨rfl, rfl, h.2⟩⟩
theorem rats_one {f : RQ} {g : Nat} {t : TypeId} {w : World} (h : Blk w g t f.cs) (ha : f.at_ w) : (isRats [f]).p (.slice (some ⟨g, 0, none⟩) 1 1) w := by
 refine ⟨g, rfl, fun i f' hf => ?_⟩
 match i, hf with
 | 0, hf =>
  obtain rfl : f = f' := by simpa using hf
  exact ⟨⟨_, _, h.cell 0, h.cell 1, rfl, rfl, ha.1⟩, ⟨_, _, h.cell 2, h.cell 3, rfl, rfl, ha.2⟩⟩
 | i + 1, hf => simp at hf
theorem all_rq (f : RQ) : [f].all RQ.ok = f.ok := by simp
def qS (n d : Int) : List UInt8 := Go.Lib.itoa n ++ (if d = 1 then [] else 47 :: Go.Lib.itoa d)
def qpS (f : RQ) : List UInt8 := if f.ok = true then qS f.n.val f.d.val else []
def qpE (f : RQ) : Int := if f.ok = true then 0 else 2
theorem itoa_one {d : Int} (h : 0 < d) : (Go.Lib.itoa d = [49]) ↔ d = 1 := by
 constructor
 ·intro e; have h1 : Go.Lib.itoa d = Go.Lib.decDigits d.toNat := by unfold Go.Lib.itoa; rw [if_neg (by omega)]
  rw [h1] at e; have h2 : vald (Go.Lib.decDigits d.toNat) = vald [49] := by rw [e]
  rw [(dec_back d.toNat).2] at h2; have h3 : vald [49] = 1 := rfl; omega
 rintro rfl; simp [Go.Lib.itoa, Go.Lib.decDigits]
theorem itoa_len {z : Int} (h : ln z.natAbs ≤ 256) : (Go.Lib.itoa z).length ≤ 2501 := by
 have h1 := dec_short h; unfold Go.Lib.itoa; split
 ·simp; omega
 rw [show z.toNat = z.natAbs by omega]; omega
set_option maxHeartbeats 1000000 in
set_option maxRecDepth 100000 in
theorem rRatPrint_calls (f : RQ) (w : World) (hx : f.at_ w) (ht : Tab w) : Calls Tryz.prog 14 #[f.v] w (RetSE (qpS f) (qpE f) w) := by
 have HV := Hd.mk (fun W (h : Below w.heap.size w W) => ValidRat_got f _ W (RQ.isL (RQ.to hx h))); unfold qpS qpE; by_cases hok : f.ok = true
 ·rw [if_pos hok, if_pos hok]; have hl1 := Raw.ok_len (RQ.ok_n hok) hx.1.2.1; have hl2 := Raw.ok_len (RQ.ok_d hok) hx.2.2.1; have hs1 := itoa_len hl1; have hs2 := itoa_len hl2; have HP1 := Hd.mk (fun W (hW : Below w.heap.size w W) => rdigits_calls f.n.val f.n.A f.n.c W ((Raw.nn (RQ.ok_n hok) hx.1).to hW) (by omega) (ht.to hW)); have HP2 := Hd.mk (fun W (hW : Below w.heap.size w W) => rdigits_calls f.d.val f.d.A f.d.c W ((Raw.nn (RQ.ok_d hok) hx.2).to hW) (by omega) (ht.to hW)); rw [← (Raw.num (RQ.ok_n hok) hx.1.2.1).1] at HP1; rw [← (Raw.num (RQ.ok_d hok) hx.2.2.1).1] at HP2; rw [hok] at HV; have hone := itoa_one (RQ.ok_pos hok); unfold qS; obtain ⟨S1, hS1⟩ : ∃ S, S = Go.Lib.itoa f.n.val := ⟨_, rfl⟩; obtain ⟨S2, hS2⟩ : ∃ S, S = Go.Lib.itoa f.d.val := ⟨_, rfl⟩; rw [← hS1] at HP1 hs1 ⊢; rw [← hS2] at HP2 hs2 hone ⊢; obtain ⟨R, hR⟩ : ∃ R, R = S1 ++ (if f.d.val = 1 then [] else 47 :: S2) := ⟨_, rfl⟩; rw [← hR]; have hR1 : S2 = [49] → R = S1 := fun e => by rw [hR, if_pos (hone.1 e), List.append_nil]
  have hR2 : S2 ≠ [49] → R = S1 ++ 47 :: S2 := fun e => by rw [hR, if_neg (fun h => e (hone.2 h))]
  have HR1 := Hd.mk hR1; have HR2 := Hd.mk hR2; unfold Raw.v at HP1 HP2; clear hx hok hl1 hl2 hS1 hS2 hR hR1 hR2 hone; obtain ⟨⟨b1, A1, c1, xs⟩, ⟨b2, A2, c2, ys⟩⟩ := f; simp only [RQ.v, RQ.cs] at HV HP1 HP2 ⊢; obtain ⟨n1, hn1⟩ : ∃ n, n = xs.length := ⟨_, rfl⟩; obtain ⟨n2, hn2⟩ : ∃ n, n = ys.length := ⟨_, rfl⟩; simp only [← hn1, ← hn2] at HV HP1 HP2 ⊢; clear hn1 hn2; go_enter Tryz.func14, Tryz.ntmps14
  go_wp2_with fail
  obtain ⟨W0, hW0⟩ : ∃ W : World, W = w.alloc (.cells #[.bool b1, .slice A1 n1 c1, .bool b2, .slice A2 n2 c2] 26) := ⟨_, rfl⟩; rw [← hW0]; have HSZ : Hd (w.heap.size + 1 = W0.heap.size) := ⟨by rw [hW0]; simp⟩; have hB0 : Blk W0 w.heap.size 26 [.bool b1, .slice A1 n1 c1, .bool b2, .slice A2 n2 c2] := by rw [hW0]; exact heap_alloc_new _ _
  have HW : Hd (Below w.heap.size w W0) := ⟨by rw [hW0]; exact below_alloc (Below.refl _ _) _⟩; have q0 : W0.cell? ⟨w.heap.size, 0, none⟩ = some (.bool b1) := hB0.cell 0; have q1 : W0.cell? ⟨w.heap.size, 1, none⟩ = some (.slice A1 n1 c1) := hB0.cell 1; have q2 : W0.cell? ⟨w.heap.size, 2, none⟩ = some (.bool b2) := hB0.cell 2; have q3 : W0.cell? ⟨w.heap.size, 3, none⟩ = some (.slice A2 n2 c2) := hB0.cell 3; have Q0 := Hd.mk hB0; have HB : Hd (Below W0.heap.size W0 W0) := ⟨Below.refl _ _⟩; clear hB0 hW0; refine (HV.out _ (bel_then HW.out (by repeat (first | exact HB.out | exact Below.refl _ _ | refine below_alloc ?_ _ | refine below_drewN ?_ _ | refine below_drew ?_ | refine below_set ?_ (by first | exact Nat.le_refl _ | omega | (simp; done) | (simp; omega)) _)))).mono ?_; rintro e w1 ⟨_, rfl, hb1, rfl⟩; have HB' : Hd (Below W0.heap.size W0 _) := ⟨bel_then (by repeat (first | exact HB.out | exact Below.refl _ _ | refine below_alloc ?_ _ | refine below_drewN ?_ _ | refine below_drew ?_ | refine below_set ?_ (by first | exact Nat.le_refl _ | omega | (simp; done) | (simp; omega)) _)) hb1⟩; clear HB; have HB := HB'; clear HB' hb1; replace q0 := (Q0.out.to HB.out).cell 0; replace q1 := (Q0.out.to HB.out).cell 1; replace q2 := (Q0.out.to HB.out).cell 2; replace q3 := (Q0.out.to HB.out).cell 3; go_wp2_with fail
  refine (rOf_calls _ _ _ _ _).mono ?_; rintro e w2 ⟨rfl, hb2⟩; have HB' : Hd (Below W0.heap.size W0 _) := ⟨bel_then (by repeat (first | exact HB.out | exact Below.refl _ _ | refine below_alloc ?_ _ | refine below_drewN ?_ _ | refine below_drew ?_ | refine below_set ?_ (by first | exact Nat.le_refl _ | omega | (simp; done) | (simp; omega)) _)) hb2⟩; clear HB; have HB := HB'; clear HB' hb2; replace q0 := (Q0.out.to HB.out).cell 0; replace q1 := (Q0.out.to HB.out).cell 1; replace q2 := (Q0.out.to HB.out).cell 2; replace q3 := (Q0.out.to HB.out).cell 3; go_wp2_with fail
  refine (HP1.out _ (bel_then HW.out (by repeat (first | exact HB.out | exact Below.refl _ _ | refine below_alloc ?_ _ | refine below_drewN ?_ _ | refine below_drew ?_ | refine below_set ?_ (by first | exact Nat.le_refl _ | omega | (simp; done) | (simp; omega)) _)))).mono ?_; rintro e w3 ⟨rfl, hb3⟩; have HB' : Hd (Below W0.heap.size W0 _) := ⟨bel_then (by repeat (first | exact HB.out | exact Below.refl _ _ | refine below_alloc ?_ _ | refine below_drewN ?_ _ | refine below_drew ?_ | refine below_set ?_ (by first | exact Nat.le_refl _ | omega | (simp; done) | (simp; omega)) _)) hb3⟩; clear HB; have HB := HB'; clear HB' hb3; replace q0 := (Q0.out.to HB.out).cell 0; replace q1 := (Q0.out.to HB.out).cell 1; replace q2 := (Q0.out.to HB.out).cell 2; replace q3 := (Q0.out.to HB.out).cell 3; go_wp2_with fail
  refine (rOf_calls _ _ _ _ _).mono ?_; rintro e w4 ⟨rfl, hb4⟩; have HB' : Hd (Below W0.heap.size W0 _) := ⟨bel_then (by repeat (first | exact HB.out | exact Below.refl _ _ | refine below_alloc ?_ _ | refine below_drewN ?_ _ | refine below_drew ?_ | refine below_set ?_ (by first | exact Nat.le_refl _ | omega | (simp; done) | (simp; omega)) _)) hb4⟩; clear HB; have HB := HB'; clear HB' hb4; replace q0 := (Q0.out.to HB.out).cell 0; replace q1 := (Q0.out.to HB.out).cell 1; replace q2 := (Q0.out.to HB.out).cell 2; replace q3 := (Q0.out.to HB.out).cell 3; go_wp2_with fail
  refine (HP2.out _ (bel_then HW.out (by repeat (first | exact HB.out | exact Below.refl _ _ | refine below_alloc ?_ _ | refine below_drewN ?_ _ | refine below_drew ?_ | refine below_set ?_ (by first | exact Nat.le_refl _ | omega | (simp; done) | (simp; omega)) _)))).mono ?_; rintro e w5 ⟨rfl, hb5⟩; have HB' : Hd (Below W0.heap.size W0 _) := ⟨bel_then (by repeat (first | exact HB.out | exact Below.refl _ _ | refine below_alloc ?_ _ | refine below_drewN ?_ _ | refine below_drew ?_ | refine below_set ?_ (by first | exact Nat.le_refl _ | omega | (simp; done) | (simp; omega)) _)) hb5⟩; clear HB; have HB := HB'; clear HB' hb5; replace q0 := (Q0.out.to HB.out).cell 0; replace q1 := (Q0.out.to HB.out).cell 1; replace q2 := (Q0.out.to HB.out).cell 2; replace q3 := (Q0.out.to HB.out).cell 3; by_cases h1 : S2 = [49]
  ·have h1b : (S2 == [49]) = true := by rw [h1]; rfl
   have HE := Hd.mk (HR1.out h1); clear h1; go_wp2_with fail
   go_ret2
   exact ⟨by rw [HE.out]; rfl, bel_then HW.out HB.out⟩
  have h1b : (S2 == [49]) = false := beq_eq_false_iff_ne.2 h1; have HE := Hd.mk (HR2.out h1); clear h1; go_wp2_with fail
  go_ret2
  exact ⟨by rw [HE.out]; exact congrArg (fun x => Ending.returned (.tuple #[.string x, .int .i64 0])) (by rw [← mk_append]; rfl), bel_then HW.out HB.out⟩
 have hno : f.ok = false := by simpa using hok
 rw [if_neg hok, if_neg hok]; rw [hno] at HV; clear hx hok hno; obtain ⟨⟨b1, A1, c1, xs⟩, ⟨b2, A2, c2, ys⟩⟩ := f; simp only [RQ.v, RQ.cs] at HV ⊢; obtain ⟨n1, hn1⟩ : ∃ n, n = xs.length := ⟨_, rfl⟩; obtain ⟨n2, hn2⟩ : ∃ n, n = ys.length := ⟨_, rfl⟩; simp only [← hn1, ← hn2] at HV ⊢; clear hn1 hn2; go_enter Tryz.func14, Tryz.ntmps14
 go_wp2_with fail
 obtain ⟨W0, hW0⟩ : ∃ W : World, W = w.alloc (.cells #[.bool b1, .slice A1 n1 c1, .bool b2, .slice A2 n2 c2] 26) := ⟨_, rfl⟩; rw [← hW0]; have HSZ : Hd (w.heap.size + 1 = W0.heap.size) := ⟨by rw [hW0]; simp⟩; have hB0 : Blk W0 w.heap.size 26 [.bool b1, .slice A1 n1 c1, .bool b2, .slice A2 n2 c2] := by rw [hW0]; exact heap_alloc_new _ _
 have HW : Hd (Below w.heap.size w W0) := ⟨by rw [hW0]; exact below_alloc (Below.refl _ _) _⟩; have q0 : W0.cell? ⟨w.heap.size, 0, none⟩ = some (.bool b1) := hB0.cell 0; have q1 : W0.cell? ⟨w.heap.size, 1, none⟩ = some (.slice A1 n1 c1) := hB0.cell 1; have q2 : W0.cell? ⟨w.heap.size, 2, none⟩ = some (.bool b2) := hB0.cell 2; have q3 : W0.cell? ⟨w.heap.size, 3, none⟩ = some (.slice A2 n2 c2) := hB0.cell 3; have Q0 := Hd.mk hB0; have HB : Hd (Below W0.heap.size W0 W0) := ⟨Below.refl _ _⟩; clear hB0 hW0; refine (HV.out _ (bel_then HW.out (by repeat (first | exact HB.out | exact Below.refl _ _ | refine below_alloc ?_ _ | refine below_drewN ?_ _ | refine below_drew ?_ | refine below_set ?_ (by first | exact Nat.le_refl _ | omega | (simp; done) | (simp; omega)) _)))).mono ?_; rintro e w1 ⟨_, rfl, hb1, rfl⟩; have HB' : Hd (Below W0.heap.size W0 _) := ⟨bel_then (by repeat (first | exact HB.out | exact Below.refl _ _ | refine below_alloc ?_ _ | refine below_drewN ?_ _ | refine below_drew ?_ | refine below_set ?_ (by first | exact Nat.le_refl _ | omega | (simp; done) | (simp; omega)) _)) hb1⟩; clear HB; have HB := HB'; clear HB' hb1; replace q0 := (Q0.out.to HB.out).cell 0; replace q1 := (Q0.out.to HB.out).cell 1; replace q2 := (Q0.out.to HB.out).cell 2; replace q3 := (Q0.out.to HB.out).cell 3; go_wp2_with fail
 go_ret2
 exact ⟨rfl, bel_then HW.out HB.out⟩
def cutL : List UInt8 → List UInt8 × List UInt8 × Bool
 | [] => ([], [], false)
 | c :: t => if c = 47 then ([], t, true) else match cutL t with
  | (a, b, true) => (c :: a, b, true)
  | (_, _, false) => (c :: t, [], false)
theorem cutL_spec : ∀ l : List UInt8, (∃ a b, cutL l = (a, b, true) ∧ l = a ++ 47 :: b ∧ Go.Lib.indexByte l 47 = (a.length : Int)) ∨ (cutL l = (l, [], false) ∧ Go.Lib.indexByte l 47 = -1)
 | [] => .inr ⟨rfl, rfl⟩
 | c :: t => by
  by_cases h : c = 47
  ·subst h; exact .inl ⟨[], t, by simp [cutL], rfl, by simp [Go.Lib.indexByte]⟩
  have hb : (c == 47) = false := beq_eq_false_iff_ne.2 h; rcases cutL_spec t with ⟨a, b, h1, h2, h3⟩ | ⟨h1, h2⟩
  ·refine .inl ⟨c :: a, b, by simp [cutL, h, h1], by rw [h2]; rfl, ?_⟩; have h4 : ((a.length : Int) == -1) = false := beq_eq_false_iff_ne.2 (by omega); simp [Go.Lib.indexByte, hb, h3, h4]
  exact .inr ⟨by simp [cutL, h, h1], by simp [Go.Lib.indexByte, hb, h2]⟩
set_option maxHeartbeats 1000000 in
set_option maxRecDepth 100000 in
theorem icut_calls (l : List UInt8) (w : World) (hl : l.length ≤ 140737488355328) :
  Calls Tryz.prog 44 #[.string ⟨l.toArray⟩, .string { data := #[47] }] w fun e w' => e = .returned (.tuple #[.string ⟨(cutL l).1.toArray⟩, .string ⟨(cutL l).2.1.toArray⟩, .bool (cutL l).2.2]) ∧ Below w.heap.size w w' := by
 have HI := Hd.mk (fun W => Go.Proofs.Tryz.stringslite_Index_one ⟨l.toArray⟩ 47 W); rw [show ({ data := l.toArray } : ByteArray).data.toList = l by simp] at HI; rcases cutL_spec l with ⟨a, b, h1, h2, h3⟩ | ⟨h1, h2⟩
 ·rw [h1]; rw [h3] at HI; simp only; have hle : l.length = a.length + b.length + 1 := by rw [h2]; simp; omega
  have HL2 := Hd.mk h2; obtain ⟨S, hS⟩ : ∃ S : ByteArray, S = ⟨l.toArray⟩ := ⟨_, rfl⟩; have hsz : S.size = a.length + b.length + 1 := by rw [hS]; show l.toArray.size = _; simp [hle]
  have e1 : S.extract 0 a.length = ⟨a.toArray⟩ := by rw [hS, h2]; apply ByteArray.ext; simp [ByteArray.extract, ByteArray.copySlice]
  have e2 : S.extract (a.length + 1) (a.length + b.length + 1) = ⟨b.toArray⟩ := by
   rw [hS, h2]; apply ByteArray.ext; simp [ByteArray.extract, ByteArray.copySlice]
  rw [← hS] at HI ⊢; clear h1 h2 h3 hS; go_enter Tryz.func44, Tryz.ntmps44
  go_wp2_with fail
  refine (HI.out _).mono ?_; rintro e w' ⟨rfl, rfl⟩; go_wp2_with fail
  go_quiet (fail)
  go_wp2_with fail
  go_ret3
  exact ⟨rfl, by repeat (first | exact HB.out | exact Below.refl _ _ | refine below_alloc ?_ _ | refine below_drewN ?_ _ | refine below_drew ?_ | refine below_set ?_ (by first | exact Nat.le_refl _ | omega | (simp; done) | (simp; omega)) _)⟩
 rw [h1]; rw [h2] at HI; simp only; clear h1 h2; go_enter Tryz.func44, Tryz.ntmps44
 go_wp2_with fail
 refine (HI.out _).mono ?_; rintro e w' ⟨rfl, rfl⟩; go_wp2_with fail
 go_ret3
 exact ⟨rfl, Below.refl _ _⟩
set_option maxRecDepth 100000 in
theorem cut_calls (l : List UInt8) (w : World) (hl : l.length ≤ 140737488355328) :
  Calls Tryz.prog 18 #[.string ⟨l.toArray⟩, .string { data := #[47] }] w fun e w' => e = .returned (.tuple #[.string ⟨(cutL l).1.toArray⟩, .string ⟨(cutL l).2.1.toArray⟩, .bool (cutL l).2.2]) ∧ Below w.heap.size w w' := by
 have HC := Hd.mk (fun W => icut_calls l W hl); obtain ⟨a, ha⟩ : ∃ a, a = (cutL l).1 := ⟨_, rfl⟩; obtain ⟨b, hb⟩ : ∃ a, a = (cutL l).2.1 := ⟨_, rfl⟩; obtain ⟨f, hf⟩ : ∃ a, a = (cutL l).2.2 := ⟨_, rfl⟩; rw [← ha, ← hb, ← hf] at HC ⊢; clear ha hb hf; go_enter Tryz.func18, Tryz.ntmps18
 go_wp2_with fail
 refine (HC.out _).mono ?_; rintro e w' ⟨rfl, hb⟩; have HB := Hd.mk hb; clear hb; go_wp2_with fail
 go_ret3
 exact ⟨rfl, HB.out⟩
theorem one_str : prZ (spl [49]).1 (spl [49]).2 = 1 ∧ prE (spl [49]).1 (spl [49]).2 = 0 := by
 have h := spl_itoa (z := 1) (Nat.le_trans (ln_word (by decide)) (by decide)); have e : Go.Lib.itoa 1 = [49] := by simp [Go.Lib.itoa, Go.Lib.decDigits]
 rw [e] at h; exact h
def rpN (l : List UInt8) : Int := prZ (spl (cutL l).1).1 (spl (cutL l).1).2
def rpB (l : List UInt8) : List UInt8 := if (cutL l).2.2 = true then (cutL l).2.1 else [49]
def rpD (l : List UInt8) : Int := prZ (spl (rpB l)).1 (spl (rpB l)).2
def rpEN (l : List UInt8) : Int := prE (spl (cutL l).1).1 (spl (cutL l).1).2
def rpED (l : List UInt8) : Int := prE (spl (rpB l)).1 (spl (rpB l)).2
def rpOk (l : List UInt8) : Bool := decide (rpEN l = 0) && decide (rpED l = 0) && !((cutL l).2.2 && decide ((cutL l).2.1 = [49])) && (decide (0 < rpD l) && decide (Nat.gcd (rpN l).natAbs (rpD l).natAbs = 1))
theorem parse_print {l : List UInt8} (h : prE (spl l).1 (spl l).2 = 0) : Go.Lib.itoa (prZ (spl l).1 (spl l).2) = l ∧ ln (prZ (spl l).1 (spl l).2).natAbs ≤ 256 := by
 have hok : okT (spl l).1 (spl l).2 = true := by
  rcases ho : okT (spl l).1 (spl l).2 with _ | _
  ·rw [(pr_no ho).2] at h; exact absurd h (by decide)
  rfl
 have ho := hok; unfold okT at ho; simp only [Bool.and_eq_true, decide_eq_true_eq] at ho; have h2 := okT_form (b := (spl l).1) ho.1.2 ho.1.1.1.1 ho.1.1.1.2; rw [hok] at h2; have h3 := h2.symm; simp only [Bool.and_eq_true, decide_eq_true_eq] at h3; rw [(pr_yes hok).1, h3.2, ← spl_back, (sgz_neg _ _).2]; exact ⟨rfl, h3.1⟩
theorem parse_no {l : List UInt8} (h : prE (spl l).1 (spl l).2 ≠ 0) : prZ (spl l).1 (spl l).2 = 0 ∧ prE (spl l).1 (spl l).2 = 6 := by
 rcases ho : okT (spl l).1 (spl l).2 with _ | _
 ·exact pr_no ho
 exact absurd (pr_yes ho).2 h
theorem rp_print {l : List UInt8} (h1 : rpEN l = 0) (h2 : rpED l = 0) : (qS (rpN l) (rpD l) = l) ↔ ((cutL l).2.2 && decide ((cutL l).2.1 = [49])) = false := by
 obtain ⟨p1, _⟩ := parse_print h1; obtain ⟨p2, _⟩ := parse_print h2; unfold qS; rw [show Go.Lib.itoa (rpN l) = (cutL l).1 from p1]; have p3 : Go.Lib.itoa (rpD l) = rpB l := p2
 have hd : (rpB l = [49]) → rpD l = 1 := fun e => by
  unfold rpD; rw [e]; exact one_str.1
 have hd2 : rpD l = 1 → rpB l = [49] := fun e => by
  rw [← p3, e]; simp [Go.Lib.itoa, Go.Lib.decDigits]
 rcases cutL_spec l with ⟨a, b, e1, e2, _⟩ | ⟨e1, _⟩
 ·have eb : rpB l = b := by unfold rpB; rw [e1]; rfl
  rw [eb] at hd hd2 p3; rw [e1, p3]; by_cases h : b = [49]
  ·rw [if_pos (hd h)]; simp only [h]; constructor
   ·intro e; rw [e2] at e; have := congrArg List.length e; simp at this
   intro e; simp at e
  rw [if_neg (fun e => h (hd2 e))]; simp [h, ← e2]
 have eb : rpB l = [49] := by unfold rpB; rw [e1]; rfl
 rw [if_pos (hd eb), e1]; simp
def rawN (z : Int) (A : Option Addr) (c : Nat) : Raw := ⟨decide (z < 0), A, c, dig z.natAbs⟩
theorem rawN_at {z : Int} {A : Option Addr} {c : Nat} {w : World} (h : NN w A c z.natAbs) : (rawN z A c).at_ w := ⟨h.1, dg_dig _, h.2.1, h.2.2⟩
theorem rawN_val (z : Int) (A : Option Addr) (c : Nat) : (rawN z A c).val = z := by
 unfold Raw.val rawN; simp only [val_dig, decide_eq_true_eq]; split <;> omega
theorem rawN_ok {z : Int} (A : Option Addr) (c : Nat) (h : ln z.natAbs ≤ 256) : (rawN z A c).ok = true := by
 have h0 : (rawN z A c).ok = (decide (ln z.natAbs ≤ 256) && (!(decide (ln z.natAbs = 0) && decide (z < 0))) && (!(decide (0 < ln z.natAbs) && decide ((dig z.natAbs).getD (ln z.natAbs - 1) 0 = 0)))) := rfl
 have h1 : (!(decide (ln z.natAbs = 0) && decide (z < 0))) = true := by
  have := ln_eq_zero (n := z.natAbs); simp; omega
 have h2 : (!(decide (0 < ln z.natAbs) && decide ((dig z.natAbs).getD (ln z.natAbs - 1) 0 = 0))) = true := by
  by_cases h : 0 < ln z.natAbs
  ·have := dig_last z.natAbs (ln z.natAbs - 1) (by unfold ln at h ⊢; omega); rw [decide_eq_false this]; simp
  simp [h]
 rw [h0, h1, h2, decide_eq_true h]; rfl
def qN (n : Int) (A1 : Option Addr) (c1 : Nat) (d : Int) (A2 : Option Addr) (c2 : Nat) : RQ := ⟨rawN n A1 c1, rawN d A2 c2⟩
theorem qN_ok {n d : Int} {A1 A2 : Option Addr} {c1 c2 : Nat} (h1 : ln n.natAbs ≤ 256) (h2 : ln d.natAbs ≤ 256) : (qN n A1 c1 d A2 c2).ok = (decide (0 < d) && decide (Nat.gcd n.natAbs d.natAbs = 1)) := by
 unfold RQ.ok qN; rw [rawN_ok A1 c1 h1, rawN_ok A2 c2 h2, rawN_val, rawN_val]; rfl
theorem qN_v (n d : Int) (A1 A2 : Option Addr) (c1 c2 : Nat) : (qN n A1 c1 d A2 c2).v = .agg #[.bool (decide (n < 0)), .slice A1 (ln n.natAbs) c1, .bool (decide (d < 0)), .slice A2 (ln d.natAbs) c2] := rfl
theorem qN_cs (n d : Int) (A1 A2 : Option Addr) (c1 c2 : Nat) : (qN n A1 c1 d A2 c2).cs = [.bool (decide (n < 0)), .slice A1 (ln n.natAbs) c1, .bool (decide (d < 0)), .slice A2 (ln d.natAbs) c2] := rfl
def RetQE (n d k : Int) (w : World) (e : Ending) (w' : World) : Prop :=
 ∃ A1 c1 A2 c2, e = .returned (.tuple #[.agg #[.bool (decide (n < 0)), .slice A1 (ln n.natAbs) c1, .bool (decide (d < 0)), .slice A2 (ln d.natAbs) c2], .int .i64 k]) ∧ NN w' A1 c1 n.natAbs ∧ NN w' A2 c2 d.natAbs ∧ Below w.heap.size w w'
def rqN (l : List UInt8) : Int := if rpOk l = true then rpN l else 0
def rqD (l : List UInt8) : Int := if rpOk l = true then rpD l else 0
def rqE (l : List UInt8) : Int := if rpOk l = true then 0 else 6
theorem retQE_err {w w' : World} (h : Below w.heap.size w w') {l : List UInt8} (ho : rpOk l = false) : RetQE (rqN l) (rqD l) (rqE l) w (.returned (.tuple #[.agg #[.bool false, .slice none 0 0, .bool false, .slice none 0 0], .int .i64 6])) w' := by
 unfold rqN rqD rqE; rw [ho]; simp only [Bool.false_eq_true, if_false]; have h0 : ln (Int.natAbs 0) = 0 := ln_zero; exact ⟨none, 0, none, 0, by rw [h0]; rfl, NN.nil _ _ _ (by omega), NN.nil _ _ _ (by omega), h⟩
theorem set_four {w : World} {g : Nat} {t : TypeId} {x0 x1 x2 x3 : Value} (h : Blk w g t [x0, x1, x2, x3]) (y0 y1 y2 y3 : Value) :
  Blk ((((w.setCell ⟨g, 0, none⟩ y0).setCell ⟨g, 1, none⟩ y1).setCell ⟨g, 2, none⟩ y2).setCell ⟨g, 3, none⟩ y3) g t [y0, y1, y2, y3] :=
 (((h.set_ 0 y0).set_ 1 y1).set_ 2 y2).set_ 3 y3
theorem NN.set4 {w : World} {A : Option Addr} {c n g : Nat} {t : TypeId} {b b' : Bool} {A1 A2 : Option Addr} {n1 c1 n2 c2 : Nat} (h : NN w A c n) (hB : Blk w g t [.bool b, .slice A1 n1 c1, .bool b', .slice A2 n2 c2]) (y0 y1 y2 y3 : Value) :
  NN ((((w.setCell ⟨g, 0, none⟩ y0).setCell ⟨g, 1, none⟩ y1).setCell ⟨g, 2, none⟩ y2).setCell ⟨g, 3, none⟩ y3) A c n :=
 (((h.set_ (hB.cell 0) (by intro t; simp) y0).set_ ((hB.set_ 0 y0).cell 1) (by intro t; simp) y1).set_ (((hB.set_ 0 y0).set_ 1 y1).cell 2) (by intro t; simp) y2).set_ ((((hB.set_ 0 y0).set_ 1 y1).set_ 2 y2).cell 3) (by intro t; simp) y3
set_option maxHeartbeats 1000000 in
set_option maxRecDepth 100000 in
theorem RatParse_calls (l : List UInt8) (w : World) (hl : l.length ≤ 140737488355328) : Calls Tryz.prog 5 #[.string ⟨l.toArray⟩] w (RetQE (rqN l) (rqD l) (rqE l) w) := by
 have HC := Hd.mk (fun W => cut_calls l W hl); obtain ⟨a, ha⟩ : ∃ a, a = (cutL l).1 := ⟨_, rfl⟩; obtain ⟨b, hb⟩ : ∃ a, a = (cutL l).2.1 := ⟨_, rfl⟩; obtain ⟨f, hf⟩ : ∃ a, a = (cutL l).2.2 := ⟨_, rfl⟩
 have hlen : a.length ≤ l.length ∧ b.length ≤ l.length := by
  rcases cutL_spec l with ⟨x, y, e1, e2, _⟩ | ⟨e1, _⟩
  ·rw [ha, hb, e1]; simp only; rw [e2]; simp; omega
  rw [ha, hb, e1]; simp
 have hla : a.length ≤ 140737488355328 := by omega
 have hlb : b.length ≤ 140737488355328 := by omega
 rw [← ha, ← hb, ← hf] at HC; have HA := Hd.mk ha; have HBB := Hd.mk hb; have HF := Hd.mk hf; clear ha hb hf hlen; go_enter Tryz.func5, Tryz.ntmps5
 go_wp2_with fail
 obtain ⟨W0, hW0⟩ : ∃ W : World, W = w.alloc (.cells #[.bool false, .slice none 0 0, .bool false, .slice none 0 0] 26) := ⟨_, rfl⟩; rw [← hW0]; have HQ : Hd (Blk W0 w.heap.size 26 [.bool false, .slice none 0 0, .bool false, .slice none 0 0]) := ⟨by rw [hW0]; exact heap_alloc_new _ _⟩; have HW : Hd (Below w.heap.size w W0) := ⟨by rw [hW0]; exact below_alloc (Below.refl _ _) _⟩; clear hW0; refine (HC.out _).mono ?_; rintro e w1 ⟨rfl, hb1⟩; have HB : Hd (Below W0.heap.size W0 w1) := ⟨hb1⟩; clear hb1; go_wp2_with fail
 refine (Parse_calls a w1 hla).mono ?_; rintro e w2 ⟨A1, c1, rfl, hn1, hb2⟩; obtain ⟨n, hn⟩ : ∃ n, n = prZ (spl a).1 (spl a).2 := ⟨_, rfl⟩; obtain ⟨k, hk⟩ : ∃ n, n = prE (spl a).1 (spl a).2 := ⟨_, rfl⟩; rw [← hn, ← hk]; rw [← hn] at hn1; have HN := Hd.mk hn; have HK := Hd.mk hk; have HN1 := Hd.mk hn1; replace HB := Hd.mk (bel_then HB.out hb2); clear hn hk hn1 hb2; obtain ⟨bn, hbn⟩ : ∃ bn, bn = decide (n < 0) := ⟨_, rfl⟩; rw [← hbn]; have HBN := Hd.mk hbn; clear hbn; go_upto_region 3 with (fail)
 obtain ⟨W3, hW3⟩ : ∃ W : World, W = w2.alloc (.cells #[.bool bn, .slice A1 (ln n.natAbs) c1] 24) := ⟨_, rfl⟩; rw [← hW3]; obtain ⟨hB3, hBW3⟩ := boxes1 hW3; have HX := Hd.mk hB3; have hsz3 : w.heap.size < w2.heap.size := Nat.lt_of_lt_of_le HQ.out.lt HB.out.size; replace HN1 := Hd.mk (HN1.out.to hBW3); replace HB := Hd.mk (bel_then HB.out hBW3); clear hB3 hBW3 hW3; have g0 := (HQ.out.to HB.out).cell 0; have g1 := (HQ.out.to HB.out).cell 1; have g2 := (HQ.out.to HB.out).cell 2; have g3 := (HQ.out.to HB.out).cell 3; have f0 := (HQ.out.to HB.out).frozen 0; have f1 := (HQ.out.to HB.out).frozen 1; have f2 := (HQ.out.to HB.out).frozen 2; have f3 := (HQ.out.to HB.out).frozen 3; by_cases hk0 : k = 0
 ·have hl1 := (parse_print (l := a) (by rw [← HK.out]; exact hk0)).2; rw [← HN.out] at hl1; subst hk0; have x0 := HX.out.c0; have x1 := HX.out.c1; have HFI : Hd (∀ W, Calls Tryz.prog 20 #[.int .i64 1] W (RetZ 1 W)) := ⟨fun W => FromInt_calls 1 W (by decide) (by decide)⟩; go_wp2_with fail
  refine wp_region_vs 4 [24, 25, 26, 9] [2] [3] 26 [.bool false, .slice none 0 0, .bool false, .slice none 0 0] [isL [zC n], isZ 1, isL [zC n, zC 1], SP.any] (by kernel_rfl) (by kernel_rfl) (by kernel_rfl) (by rfl) alloc_R (fun d v c a w h => by cases d <;> exact h) ?_ ?_
  ·intro qi qh qA aa wx hb hs hd
   match qi, qh, qA with
   | 0, _, _ => exact op_load rfl rfl (hs 7 rfl) (load_api (HX.out.to hb).c0 (HX.out.to hb).c1) (isL_one.2 ⟨_, _, rfl, A1, c1, by rw [HBN.out], rfl, HN1.out.to hb⟩) | 1, _, _ => exact op_call1 rfl rfl Tryz.call20 ((HFI.out _).mono fun e w' h => h.got) | 2, _, _ => exact op_bdR rfl (hd 0 rfl) (isL_isZ.2 (hd 1 rfl)) | 3, _, h => cases h | qi + 4, h, _ => omega
  intro vs W4 hb hv hal hne; obtain ⟨g9, e9, l9, b9⟩ : ∃ g, vs 9 = .pointer (some ⟨g, 0, none⟩) ∧ _ := hal 3 rfl; have t26 : (isL [zC n, zC 1]).p (vs 26) W4 := hv 2 (by decide) rfl; obtain ⟨_, _, _, _, e26, ⟨A3, c3, rfl, rfl, hn3⟩, A2, c2, rfl, rfl, hn2⟩ := isL_two.1 t26; simp only [PA, e9, e26]; have z0 := b9.cell 0; have z1 := b9.cell 1; have z2 := b9.cell 2; have z3 := b9.cell 3; have y0 := b9.frozen 0; have y1 := b9.frozen 1; have y2 := b9.frozen 2; have y3 := b9.frozen 3; have HK9 := Hd.mk b9; have HL9 := Hd.mk l9; rw [← HBN.out]; clear t26 hv hal hne e9 e26 x0 x1 b9 l9; go_upto_region 6 with (fail)
  have HG9 := Hd.mk (Nat.le_trans HB.out.size HL9.out)
  have HB5 : Hd (Below W0.heap.size W0 ((((W4.setCell ⟨g9, 0, none⟩ (.bool bn)).setCell ⟨g9, 1, none⟩ (.slice A3 (ln n.natAbs) c3)).setCell ⟨g9, 2, none⟩ (.bool false)).setCell ⟨g9, 3, none⟩ (.slice A2 (ln 1) c2))) :=
   ⟨by have hg := Nat.le_trans HB.out.size HL9.out; exact below_set (below_set (below_set (below_set (bel_then HB.out hb) hg _) hg _) hg _) hg _⟩
  have HK5 := Hd.mk (set_four HK9.out (.bool bn) (.slice A3 (ln n.natAbs) c3) (.bool false) (.slice A2 (ln 1) c2)); have HN5 := Hd.mk (NN.set4 hn3 HK9.out (.bool bn) (.slice A3 (ln n.natAbs) c3) (.bool false) (.slice A2 (ln 1) c2)); have HD5 := Hd.mk (NN.set4 hn2 HK9.out (.bool bn) (.slice A3 (ln n.natAbs) c3) (.bool false) (.slice A2 (ln 1) c2)); obtain ⟨W5, hW5⟩ : ∃ W : World, W = ((((W4.setCell ⟨g9, 0, none⟩ (.bool bn)).setCell ⟨g9, 1, none⟩ (.slice A3 (ln n.natAbs) c3)).setCell ⟨g9, 2, none⟩ (.bool false)).setCell ⟨g9, 3, none⟩ (.slice A2 (ln 1) c2)) := ⟨_, rfl⟩; rw [← hW5] at HB5 HK5 HN5 HD5 ⊢; clear hW5 hb hn2 hn3 HK9 z0 z1 z2 z3 y0 y1 y2 y3 HB HX HN1; cases f
  ·have hD : rpD l = 1 ∧ rpED l = 0 := by
    unfold rpD rpED; rw [show rpB l = [49] by unfold rpB; rw [← HF.out]; rfl]; exact one_str
   have hok : rpOk l = (decide (0 < (1 : Int)) && decide (Nat.gcd n.natAbs (Int.natAbs 1) = 1)) := by
    unfold rpOk; rw [hD.1, hD.2, show rpEN l = 0 by unfold rpEN; rw [← HA.out]; exact HK.out.symm, show rpN l = n by unfold rpN; rw [← HA.out]; exact HN.out.symm, ← HF.out]; simp
   have HDL := Hd.mk hD.1; have HOK := Hd.mk hok; clear hD hok; have HNL : Hd (rpN l = n) := ⟨by unfold rpN; rw [← HA.out]; exact HN.out.symm⟩; obtain ⟨d, hd⟩ : ∃ d : Int, d = 1 := ⟨_, rfl⟩; obtain ⟨bd, hbd⟩ : ∃ bd, bd = decide (d < 0) := ⟨_, rfl⟩; have HBD := Hd.mk hbd; have hbf : bd = false := by rw [hbd, hd]; rfl
   have hld : ln d.natAbs ≤ 256 := by rw [hd]; exact Nat.le_trans (ln_word (by decide)) (by decide)
   have HKR : Hd (Blk W5 g9 26 [.bool bn, .slice A3 (ln n.natAbs) c3, .bool bd, .slice A2 (ln d.natAbs) c2]) := ⟨by rw [hbf, hd]; exact HK5.out⟩; have HDR : Hd (NN W5 A2 c2 d.natAbs) := ⟨by rw [hd]; exact HD5.out⟩; rw [← hd] at HOK HDL; clear hd hbd hbf HK5 HD5; have z0 := HKR.out.cell 0; have z1 := HKR.out.cell 1; have z2 := HKR.out.cell 2; have z3 := HKR.out.cell 3; go_wp2_with fail
   have hV := validRats_got [qN n A3 c3 d A2 c2] (by simp) _ _ (rats_one (blk_new (W := W5) rfl (qN n A3 c3 d A2 c2).cs 26) ⟨rawN_at (HN5.out.to (below_alloc (Below.refl _ _) _)), rawN_at (HDR.out.to (below_alloc (Below.refl _ _) _))⟩); rw [all_rq, qN_ok hl1 hld, ← HOK.out, qN_cs, ← HBN.out, ← HBD.out] at hV; have HV := Hd.mk hV; clear hV z0 z1 z2 z3; refine HV.out.mono ?_; rintro e w6 ⟨_, rfl, hb6, rfl⟩; replace hb6 : Below W5.heap.size W5 w6 := bel_then (below_alloc (Below.refl _ _) _) hb6; have HB6 := Hd.mk (bel_then HB5.out hb6); have HN6 := Hd.mk (HN5.out.to hb6); have HD6 := Hd.mk (HDR.out.to hb6); have HK6 := Hd.mk (HKR.out.to hb6); clear hb6 HV; have z0 := HK6.out.cell 0; have z1 := HK6.out.cell 1; have z2 := HK6.out.cell 2; have z3 := HK6.out.cell 3; have g0 := (HQ.out.to HB6.out).cell 0; have g1 := (HQ.out.to HB6.out).cell 1; have g2 := (HQ.out.to HB6.out).cell 2; have g3 := (HQ.out.to HB6.out).cell 3; have f0 := (HQ.out.to HB6.out).frozen 0; have f1 := (HQ.out.to HB6.out).frozen 1; have f2 := (HQ.out.to HB6.out).frozen 2; have f3 := (HQ.out.to HB6.out).frozen 3; rcases ho : rpOk l with _ | _
   ·have HO := Hd.mk ho; clear ho; go_wp2_with fail
    have K4 := set_four (HQ.out.to HB6.out) (.bool false) (.slice none 0 0) (.bool false) (.slice none 0 0); have k0 := K4.cell 0; have k1 := K4.cell 1; have k2 := K4.cell 2; have k3 := K4.cell 3; refine bodyPost_ret (v := .tuple #[.agg #[.bool false, .slice none 0 0, .bool false, .slice none 0 0], .int .i64 6]) (by simp [results, Tryz.results5, go_sem, k0, k1, k2, k3]) rfl ?_; exact retQE_err (below_set (below_set (below_set (below_set (bel_then HW.out HB6.out) (Nat.le_refl _) _) (Nat.le_refl _) _) (Nat.le_refl _) _) (Nat.le_refl _) _) HO.out
   have HO := Hd.mk ho; clear ho; go_wp2_with fail
   have K4 := set_four (HQ.out.to HB6.out) (.bool bn) (.slice A3 (ln n.natAbs) c3) (.bool bd) (.slice A2 (ln d.natAbs) c2); have k0 := K4.cell 0; have k1 := K4.cell 1; have k2 := K4.cell 2; have k3 := K4.cell 3; refine bodyPost_ret (v := .tuple #[.agg #[.bool bn, .slice A3 (ln n.natAbs) c3, .bool bd, .slice A2 (ln d.natAbs) c2], .int .i64 0]) (by simp [results, Tryz.results5, go_sem, k0, k1, k2, k3]) rfl ?_; have e1 : rqN l = n := by unfold rqN; rw [if_pos HO.out]; exact HNL.out
   have e2 : rqD l = d := by unfold rqD; rw [if_pos HO.out]; exact HDL.out
   have e3 : rqE l = 0 := by unfold rqE; rw [if_pos HO.out]
   rw [e1, e2, e3]; exact ⟨A3, c3, A2, c2, by rw [HBN.out, HBD.out], NN.set4 HN6.out (HQ.out.to HB6.out) _ _ _ _, NN.set4 HD6.out (HQ.out.to HB6.out) _ _ _ _, below_set (below_set (below_set (below_set (bel_then HW.out HB6.out) (Nat.le_refl _) _) (Nat.le_refl _) _) (Nat.le_refl _) _) (Nat.le_refl _) _⟩
  have hrb : rpB l = b := by unfold rpB; rw [← HF.out, if_pos rfl]; exact HBB.out.symm
  go_wp2_with fail
  refine (Parse_calls b W5 hlb).mono ?_; rintro e w7 ⟨A2, c2, rfl, hn7, hb7⟩; obtain ⟨d, hd⟩ : ∃ d, d = prZ (spl b).1 (spl b).2 := ⟨_, rfl⟩; obtain ⟨k2, hk2⟩ : ∃ d, d = prE (spl b).1 (spl b).2 := ⟨_, rfl⟩; rw [← hd, ← hk2]; rw [← hd] at hn7; have HDL : Hd (rpD l = d) := ⟨by unfold rpD; rw [hrb]; exact hd.symm⟩; have HEL : Hd (rpED l = k2) := ⟨by unfold rpED; rw [hrb]; exact hk2.symm⟩; have hdl0 : k2 = 0 → ln d.natAbs ≤ 256 := fun h => by rw [hd]; exact (parse_print (l := b) (by rw [← hk2]; exact h)).2
  have hk26 : k2 ≠ 0 → k2 = 6 := fun h => by rw [hk2]; exact (parse_no (l := b) (by rw [← hk2]; exact h)).2
  obtain ⟨bd, hbd⟩ : ∃ bd, bd = decide (d < 0) := ⟨_, rfl⟩; rw [← hbd]; have HBD := Hd.mk hbd; have HB7 := Hd.mk (bel_then HB5.out hb7); have HN7 := Hd.mk (HN5.out.to hb7); have HK7 := Hd.mk (HK5.out.to hb7); clear hd hk2 hbd hb7 HB5 HN5 HK5 HD5 hrb; have z0 := HK7.out.cell 0; have z1 := HK7.out.cell 1; have z2 := HK7.out.cell 2; have z3 := HK7.out.cell 3; have y2 := HK7.out.frozen 2; have y3 := HK7.out.frozen 3; have g0 := (HQ.out.to HB7.out).cell 0; have g1 := (HQ.out.to HB7.out).cell 1; have g2 := (HQ.out.to HB7.out).cell 2; have g3 := (HQ.out.to HB7.out).cell 3; have f0 := (HQ.out.to HB7.out).frozen 0; have f1 := (HQ.out.to HB7.out).frozen 1; have f2 := (HQ.out.to HB7.out).frozen 2; have f3 := (HQ.out.to HB7.out).frozen 3; go_upto_region 8 with (fail)
  have HB8 : Hd (Below W0.heap.size W0 ((w7.setCell ⟨g9, 2, none⟩ (.bool bd)).setCell ⟨g9, 3, none⟩ (.slice A2 (ln d.natAbs) c2))) := ⟨below_set (below_set HB7.out HG9.out _) HG9.out _⟩; have HKR := Hd.mk ((HK7.out.set_ 2 (.bool bd)).set_ 3 (.slice A2 (ln d.natAbs) c2)); have e3 := (HK7.out.set_ 2 (.bool bd)).cell 3; have HN8 := Hd.mk ((HN7.out.set_ z2 (by intro t; simp) (.bool bd)).set_ e3 (by intro t; simp) (.slice A2 (ln d.natAbs) c2)); have HDR := Hd.mk ((hn7.set_ z2 (by intro t; simp) (.bool bd)).set_ e3 (by intro t; simp) (.slice A2 (ln d.natAbs) c2)); obtain ⟨W8, hW8⟩ : ∃ W : World, W = ((w7.setCell ⟨g9, 2, none⟩ (.bool bd)).setCell ⟨g9, 3, none⟩ (.slice A2 (ln d.natAbs) c2)) := ⟨_, rfl⟩; rw [← hW8] at HB8 HKR HN8 HDR ⊢; clear hW8 hn7 e3 z0 z1 z2 z3 y2 y3 g0 g1 g2 g3 f0 f1 f2 f3 HB7 HN7 HK7; have g0 := (HQ.out.to HB8.out).cell 0; have g1 := (HQ.out.to HB8.out).cell 1; have g2 := (HQ.out.to HB8.out).cell 2; have g3 := (HQ.out.to HB8.out).cell 3; have f0 := (HQ.out.to HB8.out).frozen 0; have f1 := (HQ.out.to HB8.out).frozen 1; have f2 := (HQ.out.to HB8.out).frozen 2; have f3 := (HQ.out.to HB8.out).frozen 3; have z0 := HKR.out.cell 0; have z1 := HKR.out.cell 1; have z2 := HKR.out.cell 2; have z3 := HKR.out.cell 3; by_cases hk : k2 = 0
  ·have hld := hdl0 hk; subst hk; clear hdl0 hk26; by_cases hb1 : b = [49]
   ·have hno : rpOk l = false := by
     unfold rpOk; rw [← HF.out, ← HBB.out, decide_eq_true hb1]; simp
    have hbb : (b == [49]) = true := by rw [hb1]; rfl
    have HNO := Hd.mk hno; have HB1 := Hd.mk hb1; clear hno hb1; go_wp2_with fail
    have K4 := set_four (HQ.out.to HB8.out) (.bool false) (.slice none 0 0) (.bool false) (.slice none 0 0); have k0 := K4.cell 0; have k1 := K4.cell 1; have k2 := K4.cell 2; have k3 := K4.cell 3; refine bodyPost_ret (v := .tuple #[.agg #[.bool false, .slice none 0 0, .bool false, .slice none 0 0], .int .i64 6]) (by simp [results, Tryz.results5, go_sem, k0, k1, k2, k3]) rfl ?_; exact retQE_err (below_set (below_set (below_set (below_set (bel_then HW.out HB8.out) (Nat.le_refl _) _) (Nat.le_refl _) _) (Nat.le_refl _) _) (Nat.le_refl _) _) HNO.out
   have hok : rpOk l = (decide (0 < d) && decide (Nat.gcd n.natAbs d.natAbs = 1)) := by
    unfold rpOk; rw [HDL.out, HEL.out, show rpEN l = 0 by unfold rpEN; rw [← HA.out]; exact HK.out.symm, show rpN l = n by unfold rpN; rw [← HA.out]; exact HN.out.symm, ← HF.out, ← HBB.out, decide_eq_false hb1]; simp
   have hbb : (b == [49]) = false := beq_eq_false_iff_ne.2 hb1; have HOK := Hd.mk hok; have HNL : Hd (rpN l = n) := ⟨by unfold rpN; rw [← HA.out]; exact HN.out.symm⟩; have HB1 := Hd.mk hb1; clear hok hb1; go_wp2_with fail
   have hV := validRats_got [qN n A3 c3 d A2 c2] (by simp) _ _ (rats_one (blk_new (W := W8) rfl (qN n A3 c3 d A2 c2).cs 26) ⟨rawN_at (HN8.out.to (below_alloc (Below.refl _ _) _)), rawN_at (HDR.out.to (below_alloc (Below.refl _ _) _))⟩); rw [all_rq, qN_ok hl1 hld, ← HOK.out, qN_cs, ← HBN.out, ← HBD.out] at hV; have HV := Hd.mk hV; clear hV z0 z1 z2 z3; refine HV.out.mono ?_; rintro e w6 ⟨_, rfl, hb6, rfl⟩; replace hb6 : Below W8.heap.size W8 w6 := bel_then (below_alloc (Below.refl _ _) _) hb6; have HB6 := Hd.mk (bel_then HB8.out hb6); have HN6 := Hd.mk (HN8.out.to hb6); have HD6 := Hd.mk (HDR.out.to hb6); have HK6 := Hd.mk (HKR.out.to hb6); clear hb6 HV; have z0 := HK6.out.cell 0; have z1 := HK6.out.cell 1; have z2 := HK6.out.cell 2; have z3 := HK6.out.cell 3; have g0 := (HQ.out.to HB6.out).cell 0; have g1 := (HQ.out.to HB6.out).cell 1; have g2 := (HQ.out.to HB6.out).cell 2; have g3 := (HQ.out.to HB6.out).cell 3; have f0 := (HQ.out.to HB6.out).frozen 0; have f1 := (HQ.out.to HB6.out).frozen 1; have f2 := (HQ.out.to HB6.out).frozen 2; have f3 := (HQ.out.to HB6.out).frozen 3; rcases ho : rpOk l with _ | _
   ·have HO := Hd.mk ho; clear ho; go_wp2_with fail
    have K4 := set_four (HQ.out.to HB6.out) (.bool false) (.slice none 0 0) (.bool false) (.slice none 0 0); have k0 := K4.cell 0; have k1 := K4.cell 1; have k2 := K4.cell 2; have k3 := K4.cell 3; refine bodyPost_ret (v := .tuple #[.agg #[.bool false, .slice none 0 0, .bool false, .slice none 0 0], .int .i64 6]) (by simp [results, Tryz.results5, go_sem, k0, k1, k2, k3]) rfl ?_; exact retQE_err (below_set (below_set (below_set (below_set (bel_then HW.out HB6.out) (Nat.le_refl _) _) (Nat.le_refl _) _) (Nat.le_refl _) _) (Nat.le_refl _) _) HO.out
   have HO := Hd.mk ho; clear ho; go_wp2_with fail
   have K4 := set_four (HQ.out.to HB6.out) (.bool bn) (.slice A3 (ln n.natAbs) c3) (.bool bd) (.slice A2 (ln d.natAbs) c2); have k0 := K4.cell 0; have k1 := K4.cell 1; have k2 := K4.cell 2; have k3 := K4.cell 3; refine bodyPost_ret (v := .tuple #[.agg #[.bool bn, .slice A3 (ln n.natAbs) c3, .bool bd, .slice A2 (ln d.natAbs) c2], .int .i64 0]) (by simp [results, Tryz.results5, go_sem, k0, k1, k2, k3]) rfl ?_; have e1 : rqN l = n := by unfold rqN; rw [if_pos HO.out]; exact HNL.out
   have e2 : rqD l = d := by unfold rqD; rw [if_pos HO.out]; exact HDL.out
   have e3 : rqE l = 0 := by unfold rqE; rw [if_pos HO.out]
   rw [e1, e2, e3]; exact ⟨A3, c3, A2, c2, by rw [HBN.out, HBD.out], NN.set4 HN6.out (HQ.out.to HB6.out) _ _ _ _, NN.set4 HD6.out (HQ.out.to HB6.out) _ _ _ _, below_set (below_set (below_set (below_set (bel_then HW.out HB6.out) (Nat.le_refl _) _) (Nat.le_refl _) _) (Nat.le_refl _) _) (Nat.le_refl _) _⟩
  have hno : rpOk l = false := by
   unfold rpOk; rw [HEL.out, decide_eq_false hk]; simp
  rw [hk26 hk]; have HNO := Hd.mk hno; clear hno hk hk26 hdl0; go_wp2_with fail
  have K4 := set_four (HQ.out.to HB8.out) (.bool false) (.slice none 0 0) (.bool false) (.slice none 0 0); have k0 := K4.cell 0; have k1 := K4.cell 1; have k2 := K4.cell 2; have k3 := K4.cell 3; refine bodyPost_ret (v := .tuple #[.agg #[.bool false, .slice none 0 0, .bool false, .slice none 0 0], .int .i64 6]) (by simp [results, Tryz.results5, go_sem, k0, k1, k2, k3]) rfl ?_; exact retQE_err (below_set (below_set (below_set (below_set (bel_then HW.out HB8.out) (Nat.le_refl _) _) (Nat.le_refl _) _) (Nat.le_refl _) _) (Nat.le_refl _) _) HNO.out
 have hno : rpOk l = false := by
  unfold rpOk rpEN; rw [← HA.out, ← HK.out, decide_eq_false hk0]; rfl
 have HNO := Hd.mk hno
 have hk6 : k = 6 := by
  have := (parse_no (l := a) (by rw [← HK.out]; exact hk0)).2; rw [HK.out]; exact this
 rw [hk6]; clear hk6 hno hk0; go_wp2_with fail
 have K4 := set_four (HQ.out.to HB.out) (.bool false) (.slice none 0 0) (.bool false) (.slice none 0 0); have k0 := K4.cell 0; have k1 := K4.cell 1; have k2 := K4.cell 2; have k3 := K4.cell 3; refine bodyPost_ret (v := .tuple #[.agg #[.bool false, .slice none 0 0, .bool false, .slice none 0 0], .int .i64 6]) (by simp [results, Tryz.results5, go_sem, k0, k1, k2, k3]) rfl ?_; exact retQE_err (below_set (below_set (below_set (below_set (bel_then HW.out HB.out) (Nat.le_refl _) _) (Nat.le_refl _) _) (Nat.le_refl _) _) (Nat.le_refl _) _) HNO.out
set_option maxHeartbeats 1000000 in
set_option maxRecDepth 100000 in
theorem rRatParse_calls (l : List UInt8) (w : World) (hl : l.length ≤ 140737488355328) (ht : Tab w) : Calls Tryz.prog 6 #[.string ⟨l.toArray⟩] w (RetQE (rqN l) (rqD l) (rqE l) w) := by
 have HC := Hd.mk (fun W => cut_calls l W hl); have HT := Hd.mk ht; obtain ⟨a, ha⟩ : ∃ a, a = (cutL l).1 := ⟨_, rfl⟩; obtain ⟨b, hb⟩ : ∃ a, a = (cutL l).2.1 := ⟨_, rfl⟩; obtain ⟨f, hf⟩ : ∃ a, a = (cutL l).2.2 := ⟨_, rfl⟩
 have hlen : a.length ≤ l.length ∧ b.length ≤ l.length := by
  rcases cutL_spec l with ⟨x, y, e1, e2, _⟩ | ⟨e1, _⟩
  ·rw [ha, hb, e1]; simp only; rw [e2]; simp; omega
  rw [ha, hb, e1]; simp
 have hla : a.length ≤ 140737488355328 := by omega
 have hrl : (rpB l).length ≤ 140737488355328 := by
  unfold rpB; split
  ·rw [← hb]; omega
  simp
 have HRB : Hd (rpB l = if f then b else [49]) := ⟨by unfold rpB; rw [← hf, ← hb]⟩; rw [← ha, ← hb, ← hf] at HC; have HA := Hd.mk ha; clear ha hb hf hlen ht; go_enter Tryz.func6, Tryz.ntmps6
 go_wp2_with fail
 obtain ⟨W0, hW0⟩ : ∃ W : World, W = w.alloc (.cells #[.bool false, .slice none 0 0, .bool false, .slice none 0 0] 26) := ⟨_, rfl⟩; rw [← hW0]; have HQ : Hd (Blk W0 w.heap.size 26 [.bool false, .slice none 0 0, .bool false, .slice none 0 0]) := ⟨by rw [hW0]; exact heap_alloc_new _ _⟩; have HW : Hd (Below w.heap.size w W0) := ⟨by rw [hW0]; exact below_alloc (Below.refl _ _) _⟩; clear hW0; refine (HC.out _).mono ?_; rintro e w1 ⟨rfl, hb1⟩; have HB : Hd (Below W0.heap.size W0 w1) := ⟨hb1⟩; clear hb1; go_upto_if 21 with (fail)
 go_cut [5] (fun s5 wx => w1 = wx ∧ s5 = .string ⟨(rpB l).toArray⟩)
 case first =>
  cases f
  ·go_wp2_with fail
   go_meet
   exact ⟨rfl, by rw [HRB.out]; rfl⟩
  go_wp2_with fail
  go_meet
  exact ⟨rfl, by rw [HRB.out]; rfl⟩
 case rest =>
  obtain ⟨rfl, rfl⟩ := hcut; have HPA := Hd.mk (fun W (hW : Below w.heap.size w W) => rParse_calls a W hla (HT.out.to hW)); have HPB := Hd.mk (fun W (hW : Below w.heap.size w W) => rParse_calls (rpB l) W hrl (HT.out.to hW)); obtain ⟨n, hn⟩ : ∃ n, n = prZ (spl a).1 (spl a).2 := ⟨_, rfl⟩; obtain ⟨k, hk⟩ : ∃ n, n = prE (spl a).1 (spl a).2 := ⟨_, rfl⟩; obtain ⟨d, hd⟩ : ∃ n, n = prZ (spl (rpB l)).1 (spl (rpB l)).2 := ⟨_, rfl⟩; obtain ⟨k2, hk2⟩ : ∃ n, n = prE (spl (rpB l)).1 (spl (rpB l)).2 := ⟨_, rfl⟩; rw [← hn, ← hk] at HPA; rw [← hd, ← hk2] at HPB; have HNL : Hd (rpN l = n) := ⟨by unfold rpN; rw [← HA.out]; exact hn.symm⟩; have HKL : Hd (rpEN l = k) := ⟨by unfold rpEN; rw [← HA.out]; exact hk.symm⟩; have HDL : Hd (rpD l = d) := ⟨hd.symm⟩; have HEL : Hd (rpED l = k2) := ⟨hk2.symm⟩; have hln : k = 0 → ln n.natAbs ≤ 256 := fun h => by rw [hn]; exact (parse_print (l := a) (by rw [← hk]; exact h)).2
  have hld : k2 = 0 → ln d.natAbs ≤ 256 := fun h => by rw [hd]; exact (parse_print (l := rpB l) (by rw [← hk2]; exact h)).2
  have HLN := Hd.mk hln; have HLD := Hd.mk hld; obtain ⟨bn, hbn⟩ : ∃ bn, bn = decide (n < 0) := ⟨_, rfl⟩; obtain ⟨bd, hbd⟩ : ∃ bn, bn = decide (d < 0) := ⟨_, rfl⟩; have HBN := Hd.mk hbn; have HBD := Hd.mk hbd; obtain ⟨B, hB⟩ : ∃ B, B = rpB l := ⟨_, rfl⟩; rw [← hB] at HPB ⊢; clear hn hk hd hk2 hln hld hbn hbd hB hrl HRB; go_wp2_with fail
  refine (HPA.out _ (bel_then HW.out HB.out)).mono ?_; rintro e w2 ⟨A1, c1, rfl, hn1, hb2⟩; rw [← HBN.out]; go_upto_region 5 with (fail)
  obtain ⟨W3, hW3⟩ : ∃ W : World, W = w2.alloc (.cells #[.bool bn, .slice A1 (ln n.natAbs) c1] 24) := ⟨_, rfl⟩; rw [← hW3]; obtain ⟨hB3, hBW3⟩ := boxes1 hW3; have HX := Hd.mk hB3; have HN1 := Hd.mk (hn1.to hBW3); replace HB := Hd.mk (bel_then HB.out (bel_then hb2 hBW3)); clear hB3 hBW3 hW3 hn1 hb2 HPA; go_wp2_with fail
  refine (HPB.out _ (bel_then HW.out HB.out)).mono ?_; rintro e w4 ⟨A2, c2, rfl, hn2, hb4⟩; rw [← HBD.out]; go_upto_region 6 with (fail)
  obtain ⟨W5, hW5⟩ : ∃ W : World, W = w4.alloc (.cells #[.bool bd, .slice A2 (ln d.natAbs) c2] 24) := ⟨_, rfl⟩; rw [← hW5]; obtain ⟨hB5, hBW5⟩ := boxes1 hW5; have HY := Hd.mk hB5; replace HX := Hd.mk (HX.out.to (bel_then hb4 hBW5)); replace HN1 := Hd.mk (HN1.out.to (bel_then hb4 hBW5)); have HN2 := Hd.mk (hn2.to hBW5); replace HB := Hd.mk (bel_then HB.out (bel_then hb4 hBW5)); clear hB5 hBW5 hW5 hn2 hb4 HPB; have x0 := HX.out.c0; have x1 := HX.out.c1; have y0 := HY.out.c0; have y1 := HY.out.c1; go_upto_region 7 with (fail)
  obtain ⟨W6, hW6⟩ : ∃ W : World, W = W5.alloc (.cells #[.bool bn, .slice A1 (ln n.natAbs) c1, .bool bd, .slice A2 (ln d.natAbs) c2] 26) := ⟨_, rfl⟩; rw [← hW6]; have HKR : Hd (Blk W6 W5.heap.size 26 [.bool bn, .slice A1 (ln n.natAbs) c1, .bool bd, .slice A2 (ln d.natAbs) c2]) := ⟨by rw [hW6]; exact heap_alloc_new _ _⟩; have hb6 : Below W5.heap.size W5 W6 := by rw [hW6]; exact below_alloc (Below.refl _ _) _
  replace HN1 := Hd.mk (HN1.out.to hb6); replace HN2 := Hd.mk (HN2.out.to hb6); replace HB := Hd.mk (bel_then HB.out hb6); clear hW6 hb6 x0 x1 y0 y1 HX HY; have z0 := HKR.out.cell 0; have z1 := HKR.out.cell 1; have z2 := HKR.out.cell 2; have z3 := HKR.out.cell 3; have g0 := (HQ.out.to HB.out).cell 0; have g1 := (HQ.out.to HB.out).cell 1; have g2 := (HQ.out.to HB.out).cell 2; have g3 := (HQ.out.to HB.out).cell 3; have f0 := (HQ.out.to HB.out).frozen 0; have f1 := (HQ.out.to HB.out).frozen 1; have f2 := (HQ.out.to HB.out).frozen 2; have f3 := (HQ.out.to HB.out).frozen 3; by_cases hk : k = 0 ∧ k2 = 0
  ·obtain ⟨hk1, hk2⟩ := hk; have h1 := HLN.out hk1; have h2 := HLD.out hk2; have hpr := rp_print (l := l) (by rw [HKL.out]; exact hk1) (by rw [HEL.out]; exact hk2); rw [HNL.out, HDL.out] at hpr
   have hok : rpOk l = ((decide (0 < d) && decide (Nat.gcd n.natAbs d.natAbs = 1)) && decide (qS n d = l)) := by
    unfold rpOk; rw [HKL.out, HEL.out, HDL.out, HNL.out, decide_eq_true hk1, decide_eq_true hk2]
    have e : decide (qS n d = l) = !((cutL l).2.2 && decide ((cutL l).2.1 = [49])) := by
     rw [Bool.eq_iff_iff, decide_eq_true_eq, hpr]; generalize ((cutL l).2.2 && decide ((cutL l).2.1 = [49])) = X; cases X <;> simp
    rw [e]; generalize (!((cutL l).2.2 && decide ((cutL l).2.1 = [49]))) = X; generalize (decide (0 < d) && decide (Nat.gcd n.natAbs d.natAbs = 1)) = G; cases X <;> cases G <;> rfl
   subst hk1 hk2; have HOK := Hd.mk hok; obtain ⟨Q, hQ⟩ : ∃ Q : RQ, Q = qN n A1 c1 d A2 c2 := ⟨_, rfl⟩; have hQa : Q.at_ W6 := by rw [hQ]; exact ⟨rawN_at HN1.out, rawN_at HN2.out⟩
   have hQo : Q.ok = (decide (0 < d) && decide (Nat.gcd n.natAbs d.natAbs = 1)) := by rw [hQ]; exact qN_ok h1 h2
   have hQv : Q.v = .agg #[.bool bn, .slice A1 (ln n.natAbs) c1, .bool bd, .slice A2 (ln d.natAbs) c2] := by rw [hQ, qN_v, HBN.out, HBD.out]
   have hV := ValidRat_got Q _ W6 (RQ.isL hQa); rw [hQv] at hV; have hP := fun W (hW : Below W6.heap.size W6 W) => rRatPrint_calls Q W (RQ.to hQa hW) (HT.out.to (bel_then HW.out (bel_then HB.out hW)))
   rw [hQv] at hP
   have hpS : Q.ok = true → qpS Q = qS n d := fun h => by
    unfold qpS; rw [if_pos h, hQ]; show qS (rawN n A1 c1).val (rawN d A2 c2).val = _; rw [rawN_val, rawN_val]
   rw [← hQo] at hok HOK; obtain ⟨o, ho⟩ : ∃ o, o = Q.ok := ⟨_, rfl⟩; obtain ⟨S, hS⟩ : ∃ S, S = qpS Q := ⟨_, rfl⟩; obtain ⟨kq, hkq⟩ : ∃ S, S = qpE Q := ⟨_, rfl⟩; rw [← ho] at hV HOK hpS; rw [← hS] at hpS; rw [← hS, ← hkq] at hP; have HV := Hd.mk hV; have HP := Hd.mk hP; have HPS := Hd.mk hpS; clear hpr hok hQ hQa hQo hQv hV hP hpS ho hS hkq h1 h2; cases o
   ·have hno : rpOk l = false := by rw [HOK.out]; rfl
    have HNO := Hd.mk hno; clear hno; go_wp2_with fail
    refine HV.out.mono ?_; rintro e w7 ⟨_, rfl, hb7, rfl⟩; replace HB := Hd.mk (bel_then HB.out hb7); clear hb7; have g0 := (HQ.out.to HB.out).cell 0; have g1 := (HQ.out.to HB.out).cell 1; have g2 := (HQ.out.to HB.out).cell 2; have g3 := (HQ.out.to HB.out).cell 3; have f0 := (HQ.out.to HB.out).frozen 0; have f1 := (HQ.out.to HB.out).frozen 1; have f2 := (HQ.out.to HB.out).frozen 2; have f3 := (HQ.out.to HB.out).frozen 3; go_wp2_with fail
    have K4 := set_four (HQ.out.to HB.out) (.bool false) (.slice none 0 0) (.bool false) (.slice none 0 0); have k0 := K4.cell 0; have k1 := K4.cell 1; have k2 := K4.cell 2; have k3 := K4.cell 3; refine bodyPost_ret (v := .tuple #[.agg #[.bool false, .slice none 0 0, .bool false, .slice none 0 0], .int .i64 6]) (by simp [results, Tryz.results6, go_sem, k0, k1, k2, k3]) rfl ?_; exact retQE_err (below_set (below_set (below_set (below_set (bel_then HW.out HB.out) (Nat.le_refl _) _) (Nat.le_refl _) _) (Nat.le_refl _) _) (Nat.le_refl _) _) HNO.out
   have hS := HPS.out rfl; have hok2 : rpOk l = decide (S = l) := by rw [HOK.out, hS]; simp
   have HO2 := Hd.mk hok2; clear hS hok2 HOK HPS; go_wp2_with fail
   refine HV.out.mono ?_; rintro e w7 ⟨_, rfl, hb7, rfl⟩; have HB7 := Hd.mk hb7; clear hb7; replace z0 := (HKR.out.to HB7.out).cell 0; replace z1 := (HKR.out.to HB7.out).cell 1; replace z2 := (HKR.out.to HB7.out).cell 2; replace z3 := (HKR.out.to HB7.out).cell 3; go_wp2_with fail
   refine (HP.out _ HB7.out).mono ?_; rintro e w8 ⟨rfl, hb8⟩; have HB8 := Hd.mk (bel_then HB7.out hb8); clear hb8; replace HB := Hd.mk (bel_then HB.out HB8.out); have HK8 := Hd.mk (HKR.out.to HB8.out); replace HN1 := Hd.mk (HN1.out.to HB8.out); replace HN2 := Hd.mk (HN2.out.to HB8.out); clear HP HV HKR HB7 HB8; replace z0 := HK8.out.cell 0; replace z1 := HK8.out.cell 1; replace z2 := HK8.out.cell 2; replace z3 := HK8.out.cell 3; have g0 := (HQ.out.to HB.out).cell 0; have g1 := (HQ.out.to HB.out).cell 1; have g2 := (HQ.out.to HB.out).cell 2; have g3 := (HQ.out.to HB.out).cell 3; have f0 := (HQ.out.to HB.out).frozen 0; have f1 := (HQ.out.to HB.out).frozen 1; have f2 := (HQ.out.to HB.out).frozen 2; have f3 := (HQ.out.to HB.out).frozen 3; by_cases hSl : S = l
   ·have hsb : (S == l) = true := by rw [hSl]; exact beq_self_eq_true l
    have HO := Hd.mk (show rpOk l = true by rw [HO2.out]; exact decide_eq_true hSl); clear hSl; go_wp2_with fail
    have K4 := set_four (HQ.out.to HB.out) (.bool bn) (.slice A1 (ln n.natAbs) c1) (.bool bd) (.slice A2 (ln d.natAbs) c2); have k0 := K4.cell 0; have k1 := K4.cell 1; have k2 := K4.cell 2; have k3 := K4.cell 3; refine bodyPost_ret (v := .tuple #[.agg #[.bool bn, .slice A1 (ln n.natAbs) c1, .bool bd, .slice A2 (ln d.natAbs) c2], .int .i64 0]) (by simp [results, Tryz.results6, go_sem, k0, k1, k2, k3]) rfl ?_; have e1 : rqN l = n := by unfold rqN; rw [if_pos HO.out]; exact HNL.out
    have e2 : rqD l = d := by unfold rqD; rw [if_pos HO.out]; exact HDL.out
    have e3 : rqE l = 0 := by unfold rqE; rw [if_pos HO.out]
    rw [e1, e2, e3]; exact ⟨A1, c1, A2, c2, by rw [HBN.out, HBD.out], NN.set4 HN1.out (HQ.out.to HB.out) _ _ _ _, NN.set4 HN2.out (HQ.out.to HB.out) _ _ _ _, below_set (below_set (below_set (below_set (bel_then HW.out HB.out) (Nat.le_refl _) _) (Nat.le_refl _) _) (Nat.le_refl _) _) (Nat.le_refl _) _⟩
   have hsb : (S == l) = false := beq_eq_false_iff_ne.2 hSl; have HNO := Hd.mk (show rpOk l = false by rw [HO2.out]; exact decide_eq_false hSl); clear hSl; go_wp2_with fail
   have K4 := set_four (HQ.out.to HB.out) (.bool false) (.slice none 0 0) (.bool false) (.slice none 0 0); have k0 := K4.cell 0; have k1 := K4.cell 1; have k2 := K4.cell 2; have k3 := K4.cell 3; refine bodyPost_ret (v := .tuple #[.agg #[.bool false, .slice none 0 0, .bool false, .slice none 0 0], .int .i64 6]) (by simp [results, Tryz.results6, go_sem, k0, k1, k2, k3]) rfl ?_; exact retQE_err (below_set (below_set (below_set (below_set (bel_then HW.out HB.out) (Nat.le_refl _) _) (Nat.le_refl _) _) (Nat.le_refl _) _) (Nat.le_refl _) _) HNO.out
  have hno : rpOk l = false := by
   unfold rpOk; rw [HKL.out, HEL.out]; by_cases h1 : k = 0
   ·rw [decide_eq_false (fun h2 => hk ⟨h1, h2⟩)]; simp
   rw [decide_eq_false h1]; simp
  have HNO := Hd.mk hno; clear hno; by_cases h1 : k = 0
  ·have h2 : ¬ k2 = 0 := fun h2 => hk ⟨h1, h2⟩
   subst h1; clear hk; have h2b : (k2 == 0) = false := beq_eq_false_iff_ne.2 h2; go_wp2_with fail
   have K4 := set_four (HQ.out.to HB.out) (.bool false) (.slice none 0 0) (.bool false) (.slice none 0 0); have k0 := K4.cell 0; have k1 := K4.cell 1; have k2 := K4.cell 2; have k3 := K4.cell 3; refine bodyPost_ret (v := .tuple #[.agg #[.bool false, .slice none 0 0, .bool false, .slice none 0 0], .int .i64 6]) (by simp [results, Tryz.results6, go_sem, k0, k1, k2, k3]) rfl ?_; exact retQE_err (below_set (below_set (below_set (below_set (bel_then HW.out HB.out) (Nat.le_refl _) _) (Nat.le_refl _) _) (Nat.le_refl _) _) (Nat.le_refl _) _) HNO.out
  have h1b : (k == 0) = false := beq_eq_false_iff_ne.2 h1; clear hk; go_wp2_with fail
  have K4 := set_four (HQ.out.to HB.out) (.bool false) (.slice none 0 0) (.bool false) (.slice none 0 0); have k0 := K4.cell 0; have k1 := K4.cell 1; have k2 := K4.cell 2; have k3 := K4.cell 3; refine bodyPost_ret (v := .tuple #[.agg #[.bool false, .slice none 0 0, .bool false, .slice none 0 0], .int .i64 6]) (by simp [results, Tryz.results6, go_sem, k0, k1, k2, k3]) rfl ?_; exact retQE_err (below_set (below_set (below_set (below_set (bel_then HW.out HB.out) (Nat.le_refl _) _) (Nat.le_refl _) _) (Nat.le_refl _) _) (Nat.le_refl _) _) HNO.out
theorem two_isL {n d : Int} {A1 A2 : Option Addr} {c1 c2 : Nat} {w : World} (h1 : NN w A1 c1 n.natAbs) (h2 : NN w A2 c2 d.natAbs) :
  (isL [zC n, zC d]).p (.agg #[.bool (decide (n < 0)), .slice A1 (ln n.natAbs) c1, .bool (decide (d < 0)), .slice A2 (ln d.natAbs) c2]) w := isL_two.2 ⟨_, _, _, _, rfl, ⟨A1, c1, rfl, rfl, h1⟩, ⟨A2, c2, rfl, rfl, h2⟩⟩
set_option maxHeartbeats 1000000 in
set_option maxRecDepth 100000 in
theorem ExactRatParses_walk (s : ByteArray) (w : World) (hs : s.size ≤ 140737488351232) (ht : Tab w) :
  Calls Tryz.prog 3 #[.string s] w fun e w' => e = .returned (.bool true) ∧ Below w.heap.size w w' := by
 obtain ⟨l, rfl⟩ : ∃ l : List UInt8, s = ⟨l.toArray⟩ := ⟨s.data.toList, by simp⟩
 have hl : l.length ≤ 140737488355328 := by
  have : (⟨l.toArray⟩ : ByteArray).size = l.length := by show l.toArray.size = _; simp
  omega
 obtain ⟨n, hn⟩ : ∃ z, z = rqN l := ⟨_, rfl⟩; obtain ⟨d, hd⟩ : ∃ z, z = rqD l := ⟨_, rfl⟩; obtain ⟨k, hk⟩ : ∃ k, k = rqE l := ⟨_, rfl⟩; have HP := Hd.mk (fun W => RatParse_calls l W hl); have HR := Hd.mk (fun W (hW : Below w.heap.size w W) => rRatParse_calls l W hl (ht.to hW)); rw [← hn, ← hd, ← hk] at HP HR; clear hn hd hk hs; obtain ⟨bn, hbn⟩ : ∃ b, b = decide (n < 0) := ⟨_, rfl⟩; obtain ⟨bd, hbd⟩ : ∃ b, b = decide (d < 0) := ⟨_, rfl⟩; have HBN := Hd.mk hbn; have HBD := Hd.mk hbd; clear hbn hbd; go_enter Tryz.func3, Tryz.ntmps3
 go_wp2_with fail
 refine (HP.out _).mono ?_; rintro e w1 ⟨A1, c1, A2, c2, rfl, hn1, hd1, hb1⟩; rw [← HBN.out, ← HBD.out]; go_upto_region 2 with (fail)
 obtain ⟨W1, hW1⟩ : ∃ W : World, W = w1.alloc (.cells #[.bool bn, .slice A1 (ln n.natAbs) c1, .bool bd, .slice A2 (ln d.natAbs) c2] 26) := ⟨_, rfl⟩; rw [← hW1]; have hB1 : Blk W1 w1.heap.size 26 [.bool bn, .slice A1 (ln n.natAbs) c1, .bool bd, .slice A2 (ln d.natAbs) c2] := by rw [hW1]; exact heap_alloc_new _ _
 have hBW1 : Below w1.heap.size w1 W1 := by rw [hW1]; exact below_alloc (Below.refl _ _) _
 have HX := Hd.mk hB1; have HN1 := Hd.mk (hn1.to hBW1); have HD1 := Hd.mk (hd1.to hBW1); have HB := Hd.mk (bel_then hb1 hBW1); clear hB1 hBW1 hW1 hn1 hd1 hb1; go_wp2_with fail
 refine (HR.out _ HB.out).mono ?_; rintro e w2 ⟨A3, c3, A4, c4, rfl, hn2, hd2, hb2⟩; rw [← HBN.out, ← HBD.out]; go_upto_region 3 with (fail)
 obtain ⟨W2, hW2⟩ : ∃ W : World, W = w2.alloc (.cells #[.bool bn, .slice A3 (ln n.natAbs) c3, .bool bd, .slice A4 (ln d.natAbs) c4] 26) := ⟨_, rfl⟩; rw [← hW2]; have hB2 : Blk W2 w2.heap.size 26 [.bool bn, .slice A3 (ln n.natAbs) c3, .bool bd, .slice A4 (ln d.natAbs) c4] := by rw [hW2]; exact heap_alloc_new _ _
 have hBW2 : Below w2.heap.size w2 W2 := by rw [hW2]; exact below_alloc (Below.refl _ _) _
 have HY := Hd.mk hB2; have HN2 := Hd.mk (hn2.to hBW2); have HD2 := Hd.mk (hd2.to hBW2); replace HN1 := Hd.mk (HN1.out.to (bel_then hb2 hBW2)); replace HD1 := Hd.mk (HD1.out.to (bel_then hb2 hBW2)); replace HX := Hd.mk (HX.out.to (bel_then hb2 hBW2)); replace HB := Hd.mk (bel_then HB.out (bel_then hb2 hBW2)); clear hB2 hBW2 hW2 hn2 hd2 hb2; have x0 := HX.out.cell 0; have x1 := HX.out.cell 1; have x2 := HX.out.cell 2; have x3 := HX.out.cell 3; have y0 := HY.out.cell 0; have y1 := HY.out.cell 1; have y2 := HY.out.cell 2; have y3 := HY.out.cell 3; have HS := Hd.mk (SameRat_got n d _ _ W2 (two_isL HN1.out HD1.out) (two_isL HN2.out HD2.out)); rw [← HBN.out, ← HBD.out] at HS; go_wp2_with fail
 refine HS.out.mono ?_; rintro e w3 ⟨_, rfl, hb3, rfl⟩; replace HB := Hd.mk (bel_then HB.out hb3); clear hb3 HS; go_wp2_with fail
 refine (awake_calls _).mono ?_; rintro e w4 ⟨rfl, hb4⟩; replace HB := Hd.mk (bel_then HB.out hb4); clear hb4; go_wp2_with fail
 go_ret
 exact ⟨rfl, HB.out⟩
end Go.Proofs.YtdfhhceboacdcaaGreatDoor
