/- Part 10 of the texts behind this claim. -/
import Derived.Laws.IdiomStrings
import Derived.Lib.OwnBridge
import Derived.Lib.AppendIntMem
import Derived.Test.YtdfhhceboacdcaaGreatDoorGk1
import Derived.Test.YtdfhhceboacdcaaGreatDoorGk2
import Derived.Test.YtdfhhceboacdcaaGreatDoorGk3
import Derived.Test.YtdfhhceboacdcaaGreatDoorGk6
import Derived.Test.YtdfhhceboacdcaaGreatDoorGk8
import Derived.Test.YtdfhhceboacdcaaGreatDoorGk9
set_option linter.unusedVariables false
namespace Go.Proofs.YtdfhhceboacdcaaGreatDoor
open Go.RowKit
def bcs (l : List UInt8) : List Value := l.map fun c => Value.int .u8 ((c.toNat : Nat) : Int)
theorem bcs_append (a b : List UInt8) : bcs (a ++ b) = bcs a ++ bcs b := by simp [bcs]
theorem reads_one (w : World) (t : TypeId) (u : Value) : Reads (w.alloc (.cells #[u] t)) (w.alloc (.cells #[u] t)).heap.size 1 (some ⟨w.heap.size, 0, none⟩) 1 [u] := by
 refine ⟨rfl, fun _ => ⟨_, rfl, by simp, fun j v hj => ?_⟩⟩
 have h0 : j = 0 := by
  rcases j with _ | j
  ·rfl
  simp at hj
 subst h0; simp at hj; subst hj; have hB : Blk (w.alloc (.cells #[u] t)) w.heap.size t [u] := heap_alloc_new w _; exact hB.cell 0
theorem Tryz.info_byte : (Tryz.prog.info? 5).map (fun i => (i.zero, i.size, i.bytes)) = some (some (.int .u8 0), 1, 1) := by kernel_rfl
def Apart (v : Value) (A : Option Addr) (m : Nat) : Prop := ∀ ad, A = some ad → m ≠ 0 → v.ownBlock ≠ some ad.block
theorem NN.grown {w w' : World} {A : Option Addr} {c m : Nat} {v : Value} (h : NN w A c m) (hg : w.grownBy w' v.ownBlock) (ha : Apart v A m) : NN w' A c m := by
 refine ⟨fun hn => ?_, h.2⟩; obtain ⟨ad, e, hc⟩ := h.1 hn
 have hm : m ≠ 0 := by
  intro h0; subst h0; rw [dig_zero] at hn; simp at hn
 have hlt := World.block_lt_of_cell? w _ (hc 0 hn); rw [block_add] at hlt; exact ⟨ad, e, fun j hj => (World.cell?_of_block (hg.block (ad.add j).block (by rw [block_add]; exact hlt) (by rw [block_add]; exact fun e2 => ha ad e hm e2.symm))).trans (hc j hj)⟩
theorem NN.lt {w : World} {A : Option Addr} {c m : Nat} (h : NN w A c m) (hm : m ≠ 0) : ∃ ad, A = some ad ∧ ad.block < w.heap.size := by
 have hp : 0 < ln m := Nat.pos_of_ne_zero (fun h0 => hm (ln_eq_zero.1 h0)); obtain ⟨ad, e, hc⟩ := h.1 hp; have hlt := World.block_lt_of_cell? w _ (hc 0 hp); rw [block_add] at hlt; exact ⟨ad, e, hlt⟩
theorem Apart.next {w : World} {v v' : Value} {A : Option Addr} {c m : Nat} (h : Apart v A m) (hn : NN w A c m) (hv : v'.ownBlock = v.ownBlock ∨ v'.ownBlock = some w.heap.size) : Apart v' A m := by
 intro ad e hm; rcases hv with hv | hv
 ·rw [hv]; exact h ad e hm
 rw [hv]; obtain ⟨ad', e', hlt⟩ := hn.lt hm; rw [e] at e'; cases e'
 intro he; injection he with he
 omega
def RetS (l : List UInt8) (w : World) (e : Ending) (w' : World) : Prop := e = .returned (.string ⟨l.toArray⟩) ∧ Below w.heap.size w w'
theorem own_lt {w : World} {base : Nat} {e : TypeId} {s : Nat} {v : Value} {n : Nat} {xs : List Value} (h : w.ownsRow base e s v n xs) : ∀ g, v.ownBlock = some g → g < w.heap.size := by
 intro g hg; rcases h.2 with ⟨rfl, _⟩ | ⟨g', cap, cur, rfl, hb, hh, _⟩
 ·cases hg
 cases hg
 rcases Nat.lt_or_ge g' w.heap.size with h' | h'
 ·exact h'
 rw [Array.getElem?_eq_none h'] at hh; cases hh
set_option maxHeartbeats 1000000 in
set_option maxRecDepth 100000 in
theorem text_zero (A : Option Addr) (c : Nat) (w : World) :
  Calls Tryz.prog 37 #[.agg #[.bool false, .slice A 0 c]] w (RetS [48] w) := by
 go_enter Tryz.func37, Tryz.ntmps37
 go_wp2_with (go_at_call 65; refine (zero_eq true _ _ _ _ (by omega) (by simp)).mono ?_; rintro e w' ⟨rfl, rfl⟩)
 go_ret
 exact ⟨rfl, (Below.refl _ _).alloc (Nat.le_refl _) _⟩
theorem own_to {w w' : World} {base : Nat} {e : TypeId} {s : Nat} {v : Value} {n : Nat} {xs : List Value} (h : w.ownsRow base e s v n xs) (hb : Below w.heap.size w w') : w'.ownsRow base e s v n xs :=
 h.kept (row := none) ⟨hb.os, hb.tape, hb.output, hb.size, fun q hq _ => hb.block q hq⟩ (by cases v.ownBlock <;> simp)
def encB (c : UInt8) : Value := .int .u8 ((c.toNat : Nat) : Int)
theorem encB_one : Go.Proofs.OneCell encB := fun _ => rfl
theorem rev_calls (l : List UInt8) (base : Nat) (v : Value) (w : World) (h : w.ownsRow base 5 1 v l.length (bcs l)) (hl : l ≠ []) (hn : l.length ≤ 4000) :
  ∃ g k, v = .slice (some ⟨g, 0, none⟩) l.length k ∧ base ≤ g ∧ Calls Tryz.prog 67 #[.slice (some ⟨g, 0, none⟩) l.length k] w fun e w' => e = .returned (.tuple #[]) ∧ Below base w w' ∧ ∀ j (hj : j < l.reverse.length), w'.cell? ((⟨g, 0, none⟩ : Addr).add j) = some (.int .u8 ((l.reverse[j].toNat : Nat) : Int)) := by
 have hp : 0 < l.length := List.length_pos_iff.2 hl
 have hne : v ≠ .slice none 0 0 := by
  rcases h.2 with ⟨_, h0⟩ | ⟨g, cap, cur, rfl, _⟩
  ·omega
  intro e; cases e
 obtain ⟨g, cap, rfl, hbg, hg, hnc, hcm, _, hH⟩ := Go.Lib.holds_of_ownsRow (enc := encB) (zs := l) h hne; refine ⟨g, cap, rfl, hbg, (Go.Proofs.AnyE.slices_Reverse Tryz.laysRev encB encB_one g 0 cap l w hH (by omega)).mono ?_⟩; rintro e w' ⟨rfl, n, rfl⟩; have ho := Go.Lib.ownsRow_putRow (enc := encB) (q := n) (k := l.length) (ys := l.reverse) h (by simp) (Nat.le_refl _); refine ⟨rfl, Go.Lib.below_putRow (Below.refl _ _) hbg, fun j hj => ?_⟩; have := ho.cells (g := g) rfl j (encB (l.reverse[j])) (by rw [List.take_of_length_le (by simp), List.getElem?_map, List.getElem?_eq_getElem hj]; rfl); exact this
theorem bcs_digit (l : List UInt8) (x : Nat) : bcs l ++ [Value.int .u8 (48 + (x : Int) % 10)] = bcs (l ++ [dc (x % 10)]) := by
 rw [bcs_append]
 have : ((dc (x % 10)).toNat : Int) = 48 + (x : Int) % 10 := by
  unfold dc; rw [UInt8.toNat_ofNat']; omega
 simp [bcs, this]
def sgnb : Bool → List UInt8
 | true => [45]
 | false => []
def TextIn (w : World) (N q : Nat) (A : Option Addr) (c : Nat) (s3 s6 s7 : Value) (wr : World) : Prop :=
 ∃ (l : List UInt8) (x k : Nat), s6 = .int .u32 (x : Int) ∧ s7 = .int .i64 (k : Int) ∧ k ≤ 9 ∧ x < 10 ^ (9 - k) ∧ revd N = l ++ revd (q * 10 ^ (9 - k) + x) ∧ wr.ownsRow w.heap.size 5 1 s3 l.length (bcs l) ∧ Apart s3 A q ∧ NN wr A c q ∧ Below w.heap.size w wr
def TextOut (w : World) (N m : Nat) (s3 s4 : Value) (wr : World) : Prop :=
 ∃ (l : List UInt8) (A : Option Addr) (c : Nat), s4 = .slice A (ln m) c ∧ m ≤ N ∧ revd N = l ++ revd m ∧ wr.ownsRow w.heap.size 5 1 s3 l.length (bcs l) ∧ Apart s3 A m ∧ NN wr A c m ∧ Below w.heap.size w wr
set_option maxHeartbeats 4000000 in
set_option maxRecDepth 100000 in
theorem text_pos (b : Bool) (N : Nat) (A : Option Addr) (c : Nat) (w : World) (h : NN w A c N) (l1 : ln N ≤ 300) (h0 : N ≠ 0) (hrev : (revd N).length ≤ 3000) :
  Calls Tryz.prog 37 #[.agg #[.bool b, .slice A (ln N) c]] w (RetS (sgnb b ++ numd N) w) := by
 obtain ⟨i0, hi, hz0, hz1, hz2⟩ := info_parts Tryz.info_byte; have HN := Hd.mk h; have HN0 := Hd.mk h0; have HRL := Hd.mk hrev; have hl0 : ln N ≠ 0 := fun h => h0 (ln_eq_zero.1 h)
 clear h h0 hrev; obtain ⟨L, hL⟩ : ∃ L, L = ln N := ⟨_, rfl⟩; rw [← hL] at hl0 l1; rw [show (.slice A (ln N) c : Value) = .slice A L c by rw [hL]]; have HLN := Hd.mk hL; clear hL; go_enter Tryz.func37, Tryz.ntmps37
 go_wp2_with (go_at_call 65; refine (zero_eq false _ _ _ _ (by omega) (by simp; omega)).mono ?_; rintro e w' ⟨rfl, rfl⟩)
 obtain ⟨W0, hW0⟩ : ∃ W : World, W = w.alloc (.cells #[.bool b, .slice A L c] 51) := ⟨_, rfl⟩; rw [← hW0]; have HSZ : Hd (w.heap.size + 1 = W0.heap.size) := ⟨by rw [hW0]; simp⟩; obtain ⟨hB0, hBW⟩ := boxes1 hW0; have q0 := hB0.c0; have q1 := hB0.c1; have Q0 := Hd.mk hB0; have HW := Hd.mk hBW; have HB : Hd (Below W0.heap.size W0 W0) := ⟨Below.refl _ _⟩; clear hB0 hBW hW0; go_loopg [3, 4] N (fun g s3 s4 wr => ∃ gm, gm ≤ g ∧ TextOut W0 N gm s3 s4 wr)
 case atStart => exact ⟨N, Nat.le_refl _, [], A, c, by rw [HLN.out], Nat.le_refl _, by simp, ⟨rfl, .inl ⟨rfl, rfl⟩⟩, (fun _ _ _ h => by cases h), HN.out.to HW.out, Below.refl _ _⟩
 case round =>
  obtain ⟨gm, hgg, l, A4, c4, rfl, hmN, hrv, hown, hap, hnn, hbel⟩ := hrel; obtain ⟨wa, rfl⟩ : ∃ wa : World, wa = wr := ⟨_, rfl⟩; have HO := Hd.mk hown; have HAP := Hd.mk hap; have HN4 := Hd.mk hnn; have HB := Hd.mk hbel; have HRV := Hd.mk hrv; clear hrv hown hap hnn hbel; by_cases hm : gm = 0
  ·have hlz : ln gm = 0 := ln_eq_zero.2 hm; rw [hlz]; go_wp2_with fail
   refine (zero_eq true A4 _ c4 _ (by omega) (by simp)).mono ?_; rintro e w' ⟨rfl, rfl⟩; have hrl : l = revd N := by have := HRV.out; rw [hm, revd_zero, List.append_nil] at this; exact this.symm
   have HL : Hd (l.length ≤ 3000) := ⟨by rw [hrl]; exact HRL.out⟩; have hlne : l ≠ [] := by rw [hrl, revd_pos HN0.out]; exact List.cons_ne_nil _ _
   have HLR := Hd.mk hrl; have HLNE := Hd.mk hlne; replace q0 := (Q0.out.to HB.out).c0; clear hrl hlne hlz hm; cases b
   ·go_wp2_with fail
    obtain ⟨g, k, rfl, hbg, hc⟩ := rev_calls l W0.heap.size u3 _ HO.out HLNE.out (by have := HL.out; omega); refine hc.mono ?_; rintro e w2 ⟨rfl, hb2, hcells⟩; have hcv := run_convert_bytes_back (P := Tryz.prog) w2 80 9 5 ⟨g, 0, none⟩ k l.reverse Tryz.underlying80 Tryz.underlying5 Tryz.underlying9 hcells; rw [List.length_reverse] at hcv; clear hcells; have HB2 := Hd.mk hb2; clear hb2; go_wp2_with fail
    go_ret
    exact ⟨by rw [HLR.out]; rfl, bel_then HW.out (HB.out.trans HB2.out)⟩
   go_wp2_with (first | (at_builtin; refine wpList_append_any _ rfl (.tmp 51) (.tmp 52) 80 rfl W0.heap.size 5 i0 (.int .u8 0) 1 1 Tryz.underlying80 hi hz0 hz1 hz2 rfl (by decide) _ l.length (bcs l) rfl (HO.out.alloc _) _ (some ⟨wa.heap.size, 0, none⟩) 1 1 _ rfl (reads_one _ _ _) (by intro u hu; simp at hu; subst hu; rfl) (by have := HL.out; unfold maxLen; omega) (by have := HL.out; omega) (by have := HB.out.size; simp; omega) ?_; intro v1 w1 hown1 hg1 hat1) | fail)
   have hb1 : Below W0.heap.size W0 w1 := (below_alloc HB.out _).grown hg1 (by have := HB.out.size; simp; omega) (own_ge HO.out); have hown2 : w1.ownsRow W0.heap.size 5 1 v1 (l ++ [45]).length (bcs (l ++ [45])) := by rw [bcs_append, List.length_append]; exact hown1
   obtain ⟨g, k, rfl, hbg, hc⟩ := rev_calls (l ++ [45]) W0.heap.size v1 _ hown2 (by simp) (by have := HL.out; simp; omega); clear hown1 hg1 hat1 hown2; refine hc.mono ?_; rintro e w2 ⟨rfl, hb2, hcells⟩; have hcv := run_convert_bytes_back (P := Tryz.prog) w2 80 9 5 ⟨g, 0, none⟩ k (l ++ [45]).reverse Tryz.underlying80 Tryz.underlying5 Tryz.underlying9 hcells; rw [List.length_reverse, (by simp : (l ++ [(45 : UInt8)]).length = l.length + 1)] at hcv; obtain ⟨R, hR⟩ : ∃ R, R = (l ++ [45]).reverse := ⟨_, rfl⟩; rw [← hR] at hcv; have HR := Hd.mk hR; clear hcells hR; have HB2 := Hd.mk (hb1.trans hb2); clear hb2 hb1; go_wp2_with fail
   go_ret
   exact ⟨by rw [HR.out, HLR.out]; simp [sgnb, numd], bel_then HW.out HB2.out⟩
  have hl : ln gm ≠ 0 := fun h => hm (ln_eq_zero.1 h)
  have hlen : ln gm ≤ L := by rw [HLN.out]; exact ln_mono hmN
  have HSH := Hd.mk (short_new A4 c4 gm 1000000000 wa HN4.out (by omega) (by decide) (by decide)); obtain ⟨q, hq⟩ : ∃ q, q = gm / 1000000000 := ⟨_, rfl⟩; obtain ⟨r, hr⟩ : ∃ r, r = gm % 1000000000 := ⟨_, rfl⟩; have hgm : gm = q * 10 ^ 9 + r := by omega
  have hr9 : r < 1000000000 := by omega
  rw [← hq, ← hr] at HSH; have hqg : q < gm := by omega
  clear hq hr; rw [hgm] at HRV; clear hgm; obtain ⟨L4, hL4⟩ : ∃ L, L = ln gm := ⟨_, rfl⟩; rw [← hL4] at hl hlen HSH ⊢; have HL4 := Hd.mk hL4; clear hL4; go_wp2_with fail
  refine (zero_eq false A4 _ c4 _ (by omega) (by simp; omega)).mono ?_; rintro e w' ⟨rfl, rfl⟩; go_wp2_with fail
  refine HSH.out.mono ?_; rintro e w1 ⟨A5, c5, rfl, hn4, hn5, hlt, hb1⟩; have HO1 := Hd.mk (own_to HO.out hb1); have HAP1 : Hd (Apart u3 (some ⟨wa.heap.size, 0, none⟩) q) := ⟨fun ad e _ he => by cases e; have := own_lt HO.out _ he; simp at this⟩; have HB1 : Hd (Below W0.heap.size W0 w1) := ⟨bel_then HB.out hb1⟩; have HN6 := Hd.mk hn4; have HN5 := Hd.mk hn5; clear hn4 hn5 hb1; have hlr1 : ln r ≤ 1 := ln_le (by show r < 4294967296 ^ 1; omega); by_cases hr0 : r = 0
  case' pos =>
   subst hr0; have hlr : ln 0 = 0 := ln_zero; rw [hlr]; clear hlr hlr1; go_wp2_with fail
   refine (zero_eq true A5 _ c5 _ (by omega) (by simp)).mono ?_; rintro e w' ⟨rfl, rfl⟩; go_wp2_with fail
  case' neg =>
   have hlr : ln r = 1 := by have h1 : ln r ≠ 0 := fun h => hr0 (ln_eq_zero.1 h); omega
   obtain ⟨ad, rfl, hcell⟩ := HN5.out.at_ (k := 0) (by omega); rw [dig_getD, Nat.pow_zero, Nat.div_one, show r % B = r from Nat.mod_eq_of_lt (by unfold B; omega)] at hcell; have hcell0 : w1.cell? ad = some (.int .u32 (r : Int)) := hcell; rw [hlr]; clear hlr; go_wp2_with fail
   refine (zero_eq false (some ad) _ c5 _ (by omega) (by simp)).mono ?_; rintro e w' ⟨rfl, rfl⟩; go_wp2_with fail
   clear hcell hcell0 hr0
  all_goals
   go_loopw [3, 6, 7] (fun s3 s6 s7 wx => TextIn W0 N q (some ⟨wa.heap.size, 0, none⟩) L4 s3 s6 s7 wx) (fun _ _ s7 _ => (9 - intOf s7).toNat)
   case atStart => exact ⟨l, _, 0, rfl, rfl, by omega, by omega, HRV.out, HO1.out, HAP1.out, HN6.out, HB1.out⟩
   case round =>
    obtain ⟨l2, x, k, rfl, rfl, hk, hx, hrv2, hown2, hap2, hnn2, hbel2⟩ := hrel; have HX := Hd.mk hx; have HO2 := Hd.mk hown2; have HAP2 := Hd.mk hap2; have HN2 := Hd.mk hnn2; have HB2 := Hd.mk hbel2; have HRV2 := Hd.mk hrv2; have hxl : x < 1000000000 := Nat.lt_of_lt_of_le hx (Nat.le_trans (Nat.pow_le_pow_right (by decide) (show 9 - k ≤ 9 by omega)) (by decide)); have HL : Hd (l2.length ≤ 3000) := ⟨by have h1 := HRL.out; rw [hrv2, List.length_append] at h1; omega⟩; clear hx hrv2 hown2 hap2 hnn2 hbel2; by_cases hgo : k < 9 ∧ (0 < x ∨ q ≠ 0)
    ·obtain ⟨hk9, hxq⟩ := hgo; by_cases hx0 : 0 < x; case' pos => go_upto_region 14 with (fail)
     case' neg =>
      have hqn : ln q ≠ 0 := fun h => (by have := (ln_eq_zero (n := q)).1 h; omega)
      have hql : ln q ≤ L := by rw [HLN.out]; exact ln_mono (by omega)
      go_wp2_with fail
      refine (zero_eq false _ _ _ _ (by omega) (by simp; omega)).mono ?_; rintro e w' ⟨rfl, rfl⟩; go_upto_region 14 with (fail)
     all_goals
      go_wp2_with (at_builtin; refine wpList_append_any _ rfl (.tmp 40) (.tmp 45) 80 rfl W0.heap.size 5 i0 (.int .u8 0) 1 1 Tryz.underlying80 hi hz0 hz1 hz2 rfl (by decide) _ l2.length (bcs l2) rfl (HO2.out.alloc _) _ (some ⟨wr.heap.size, 0, none⟩) 1 1 _ rfl (reads_one _ _ _) (by intro u hu; simp at hu; subst hu; rfl) (by have := HL.out; unfold maxLen; omega) (by have := HL.out; omega) (by have := HB2.out.size; simp; omega) ?_; intro v3 w3 hown3 hg3 hat3)
      have hst := text_step hk9 HX.out hxq; rw [bcs_digit] at hown3; refine ⟨⟨l2 ++ [dc (x % 10)], x / 10, k + 1, rfl, rfl, by omega, hst.2, by rw [HRV2.out, hst.1]; simp, by rw [List.length_append]; exact hown3, HAP2.out.next (HN2.out.to (below_alloc (Below.refl _ _) _)) hat3, (HN2.out.to (below_alloc (Below.refl _ _) _)).grown hg3 HAP2.out, (below_alloc HB2.out _).grown hg3 (by have := HB2.out.size; simp; omega) (own_ge HO2.out)⟩, by simp [intOf]; omega⟩
    have hfin : x = 0 ∧ q * 10 ^ (9 - k) + x = q := by
     by_cases hk9 : k < 9
     ·have h1 : x = 0 := by omega
      have h2 : q = 0 := by omega
      subst h1 h2; simp
     have h1 := HX.out; rw [show 9 - k = 0 by omega] at h1 ⊢; omega
    by_cases hk9 : k < 9
    case' pos =>
     have hx0 : ¬ 0 < x := by omega
     have hqn : ln q = 0 := ln_eq_zero.2 (by omega); rw [hqn]; have HQN := Hd.mk hqn; clear hqn; have HF := Hd.mk hfin; clear hfin; go_wp2_with fail
     refine (zero_eq true _ _ _ _ (by omega) (by simp)).mono ?_; rintro e w' ⟨rfl, rfl⟩; go_wp2_with fail
    case' neg =>
     have HF := Hd.mk hfin; clear hfin; go_wp2_with fail
    all_goals
     go_roundg q
     case measure => omega
     case rel => exact ⟨q, Nat.le_refl _, l2, _, _, (by first | rfl | rw [HQN.out]), by omega, by rw [HRV2.out, HF.out.2], HO2.out, HAP2.out, HN2.out, HB2.out⟩
theorem ln_word {d : Nat} (h : d < 4294967296) : ln d ≤ 1 := ln_le (by rw [Nat.pow_one]; exact h)
set_option maxRecDepth 100000 in
theorem rsmall_calls (A1 : Option Addr) (c1 m d : Nat) (w : World) (h1 : NN w A1 c1 m) (hd : d < 4294967296) (l1 : ln m ≤ 1073741824) :
  Calls Tryz.prog 53 #[.slice A1 (ln m) c1, .int .u32 (d : Int)] w (RetN (m * d) w) := by
 have HX := Hd.mk h1; have hl := Hd.mk (ln_word hd); clear h1; go_enter Tryz.func53, Tryz.ntmps53
 go_wp2_with fail
 refine (natural_calls d (by have := hl.out; omega) _).mono ?_; rintro e w1 ⟨A2, c2, rfl, hn2, hb1⟩; have HN2 := Hd.mk hn2; have HB1 := Hd.mk hb1; clear hn2 hb1; go_wp2_with fail
 refine (rtimes_calls A1 c1 m A2 c2 d _ (HX.out.to HB1.out) HN2.out l1 (by have := hl.out; omega)).mono ?_; rintro e w2 ⟨A3, c3, rfl, hn3, hb2⟩; have HN3 := Hd.mk hn3; have HB2 := Hd.mk hb2; clear hn3 hb2; go_wp2_with fail
 go_ret
 exact ⟨A3, c3, rfl, HN3.out, bel_then HB1.out HB2.out⟩
theorem halve {lo hi m r mid : Nat} (h : mid = (lo + hi) / 2) (hlt : lo + 1 < hi) : lo < mid ∧ mid < hi := by omega
theorem quot_of {lo m r : Nat} (h1 : lo * m ≤ r) (h2 : r < (lo + 1) * m) : r / m = lo := by
 have hm : 0 < m := by
  rcases Nat.eq_zero_or_pos m with h | h
  ·subst h; omega
  exact h
 apply Nat.le_antisymm
 ·exact Nat.lt_succ_iff.1 ((Nat.div_lt_iff_lt_mul hm).2 h2)
 exact (Nat.le_div_iff_mul_le hm).2 h1
theorem rlong_step {x R m Q : Nat} (hm : 0 < m) : x + B * (m * Q + R) = m * ((x + B * R) / m + B * Q) + (x + B * R) % m := by
 have := Nat.div_add_mod (x + B * R) m; rw [Nat.mul_add m, Nat.mul_left_comm m B Q, Nat.mul_add B]; omega
theorem cmpv_lt {m n : Nat} (h : m < n) : cmpv m n = -1 := if_pos h
theorem cmpv_ge {m n : Nat} (h : ¬ m < n) : 0 ≤ cmpv m n := by unfold cmpv; rw [if_neg h]; split <;> omega
theorem cmpv_le {m n : Nat} (h : m ≤ n) : cmpv m n ≤ 0 := by unfold cmpv; split; · omega
                                                             rw [if_pos (by omega)]; omega
theorem cmpv_gt {m n : Nat} (h : n < m) : cmpv m n = 1 := by unfold cmpv; rw [if_neg (by omega), if_neg (by omega)]
def RetNew (n : Nat) (w : World) (e : Ending) (w' : World) : Prop := ∃ c, e = .returned (.slice (some ⟨w.heap.size, 0, none⟩) (ln n) c) ∧ NN w' (some ⟨w.heap.size, 0, none⟩) c n ∧ Below w.heap.size w w'
set_option maxRecDepth 100000 in
theorem rless_new (A1 : Option Addr) (c1 m : Nat) (A2 : Option Addr) (c2 n : Nat) (w : World) (h1 : NN w A1 c1 m) (h2 : NN w A2 c2 n) (hnm : n ≤ m) (l1 : ln m ≤ 1073741824) :
  Calls Tryz.prog 75 #[.slice A1 (ln m) c1, .slice A2 (ln n) c2] w (RetNew (m - n) w) := by
 have HX := Hd.mk h1; have HY := Hd.mk h2; clear h1 h2; have hgt := ln_mono hnm; have hmk := fun W => make_words 59 Tryz.underlying59 (ln m : Int) (ln m) (by omega) (by omega) W
 go_enter Tryz.func75, Tryz.ntmps75
 go_wp2
 clear hmk; go_loopw [6, 14] (fun s6 s22 wr => ∃ (k cy : Nat) (ds : List Nat), k ≤ ln m ∧ s22 = .int .i64 k ∧ s6 = .int .u64 ((cy : Nat) : Int) ∧ cy ≤ 1 ∧ ds.length = k ∧ Dg ds ∧ val ds + val ((dig n).take k) = val ((dig m).take k) + B ^ k * cy ∧ Blk wr w.heap.size 46 (cells (ds ++ List.replicate (ln m - k) 0)) ∧ Below w.heap.size w wr) (fun _ s22 _ => ln m - (intOf s22).toNat)
 case atStart => exact ⟨0, 0, [], Nat.zero_le _, rfl, rfl, Nat.zero_le _, rfl, (fun x hx => by cases hx), by simp [val], heap_alloc_new w _, below_alloc (Below.refl _ _) _⟩
 case round =>
  obtain ⟨k, cy, ds, hk, rfl, rfl, hcy, hdl, hdd, hval, hblk, hbel⟩ := hrel; have HV := Hd.mk hval; have HK := Hd.mk hblk; have HL := Hd.mk hdl; have HB := Hd.mk hbel; have HDD := Hd.mk hdd; have hfz := hblk.frozen k; have hck : k < ln m → _ := fun hh => hblk.at_ (i := k) (by simp; omega)
  clear hval hblk hdl hbel hdd; by_cases hkl : k < ln m
  ·have hck := hck hkl; obtain ⟨a1, rfl, hcell1⟩ := (HX.out.to HB.out).at_ hkl; obtain ⟨dx, hdx⟩ : ∃ dx, dx = (dig m).getD k 0 := ⟨_, rfl⟩; have hdx1 : dx < 4294967296 := by rw [hdx]; exact dg_get (dg_dig _) k
   obtain ⟨dy, hdy⟩ : ∃ dy, dy = (dig n).getD k 0 := ⟨_, rfl⟩; have hdy1 : dy < 4294967296 := by rw [hdy]; exact dg_get (dg_dig _) k
   rw [← hdx] at hcell1; have hz := get_zero ds (ln m - k) k (by have := HL.out; omega); rw [hz] at hck
   have hrel' : val (ds ++ [(4294967296 + dx - dy - cy) % 4294967296]) + val ((dig n).take (k + 1)) = val ((dig m).take (k + 1)) + B ^ (k + 1) * (if dx < dy + cy then 1 else 0) := by
    rw [val_take_next, val_take_next, ← hdx, ← hdy]; exact sub_step HL.out hdx1 hdy1 hcy HV.out
   have hput : Blk (wr.setCell ⟨w.heap.size, k, none⟩ (.int .u32 (((4294967296 + dx - dy - cy) % 4294967296 : Nat) : Int))) w.heap.size 46 (cells ((ds ++ [(4294967296 + dx - dy - cy) % 4294967296]) ++ List.replicate (ln m - (k + 1)) 0)) := by
    have := HK.out.put k ((4294967296 + dx - dy - cy) % 4294967296); rw [← HL.out, set_next ds _ _ (by have := HL.out; omega)] at this; rw [← HL.out]; exact this
   have hb1 : (if dx < dy + cy then 1 else 0 : Nat) ≤ 1 := by split <;> omega
   obtain ⟨bw, hbw⟩ : ∃ bw : Nat, bw = (if dx < dy + cy then 1 else 0 : Nat) := ⟨_, rfl⟩; obtain ⟨dd, hddq⟩ : ∃ dd : Nat, dd = (4294967296 + dx - dy - cy) % 4294967296 := ⟨_, rfl⟩; have hddl : dd < B := by rw [hddq]; exact Nat.mod_lt _ (by decide)
   rw [← hbw, ← hddq] at hrel'; rw [← hddq] at hput; rw [← hbw] at hb1; have hhi := sub64_high2 dx dy cy hdx1 hdy1 hcy bw hbw; have hlo := sub64_low2 dx cy dy dd (by omega); have hhi1 := fun h0 : dy = 0 => sub64_high1 dx cy hdx1 hcy bw (by rw [hbw, h0]; simp)
   have hlo1 := fun h0 : dy = 0 => sub64_low1 dx cy dd (by omega)
   have HR := Hd.mk hrel'; have HP := Hd.mk hput; have HDY := Hd.mk hdy; clear hrel' hput hz hdx hbw hddq; by_cases hkq : k < ln n
   ·obtain ⟨a2, rfl, hcell2⟩ := (HY.out.to HB.out).at_ hkq; rw [← hdy] at hcell2; clear hdy; clear hhi1 hlo1; go_wp2_with fail
    go_roundw
    case rel => exact ⟨k + 1, bw, ds ++ [dd], by omega, by go_num, rfl, hb1, by rw [List.length_append, HL.out]; rfl, dg_append HDD.out (dg_one hddl), HR.out, HP.out, below_set HB.out (Nat.le_refl _) _⟩
    case measure => simp [intOf]; omega
   have hdy0 : dy = 0 := by rw [hdy]; exact getD_zero_of_le (by unfold ln at hkq; omega)
   have hhi2 := hhi1 hdy0; have hlo2 := hlo1 hdy0; clear hdy hdy0 hhi hlo hhi1 hlo1; go_wp2_with fail
   go_roundw
   case rel => exact ⟨k + 1, bw, ds ++ [dd], by omega, by go_num, rfl, hb1, by rw [List.length_append, HL.out]; rfl, dg_append HDD.out (dg_one hddl), HR.out, HP.out, below_set HB.out (Nat.le_refl _) _⟩
   case measure => simp [intOf]; omega
  have hke : k = ln m := by omega
  subst hke
  have hv2 : val ds = m - n := by
   have h1 := HV.out; rw [val_take_all (Nat.le_refl _), val_take_all hgt] at h1; have h2 := val_lt HDD.out; rw [HL.out] at h2; rcases Nat.lt_or_ge cy 1 with h3 | h3
   ·have : cy = 0 := by omega
    subst this; simp at h1; omega
   have : cy = 1 := by omega
   subst this; simp at h1; omega
  have hput : Blk wr w.heap.size 46 (cells ds) := by
   have := HK.out; simpa using this
  have hc := trim_calls (some ⟨w.heap.size, 0, none⟩) (ln m) ds _ hput.reads HDD.out (by have := HL.out; omega) (by omega); have hrn := hput.reads.of_take HDD.out; rw [HL.out, hv2] at hc; rw [hv2] at hrn; have hfin : ln (m - n) ≤ ln m := ln_mono (Nat.sub_le _ _); have HC := Hd.mk hc; have HRN := Hd.mk hrn; clear hput hv2 hc hrn hck; go_wp2_with (first | (go_at_call 81; refine HC.out.mono ?_; rintro e w' ⟨rfl, rfl⟩))
  go_ret
  exact ⟨_, rfl, ⟨HRN.out, hfin, by omega⟩, HB.out⟩
theorem NN.set_far {w : World} {g : Nat} {c n : Nat} (h : NN w (some ⟨g, 0, none⟩) c n) {p : Addr} (hp : p.block ≠ g) (u : Value) : NN (w.setCell p u) (some ⟨g, 0, none⟩) c n :=
 ⟨fun hn => by
  obtain ⟨ad, e, hc⟩ := h.1 hn; refine ⟨ad, e, fun j hj => ?_⟩; have hb : (ad.add j).block = g := by rw [block_add, ← Option.some.inj e]
  rw [World.cell?_setCell_far _ _ _ _ (by rw [hb]; exact hp)]
  exact hc j hj, h.2⟩
theorem getD_set_same (qs : List Nat) (k x : Nat) {j : Nat} (h : j ≠ k) : (qs.set k x).getD j 0 = qs.getD j 0 := getD_set_ne (Ne.symm h) x
set_option maxHeartbeats 2000000 in
set_option maxRecDepth 100000 in
theorem divided_calls (A1 : Option Addr) (c1 n : Nat) (A2 : Option Addr) (c2 m : Nat) (w : World) (h1 : NN w A1 c1 n) (h2 : NN w A2 c2 m) (hm0 : m ≠ 0) (l1 : ln n ≤ 268435456) (l2 : ln m ≤ 268435456) :
  Calls Tryz.prog 68 #[.slice A1 (ln n) c1, .slice A2 (ln m) c2] w (RetNN (n / m) (n % m) w) := by
 obtain ⟨i0, hi, hz0, hz1, hz2⟩ := info_parts Tryz.info_word; have HX := Hd.mk h1; have HY := Hd.mk h2; have hmp : 0 < m := by omega
 clear h1 h2 hm0; have hmk := fun W => make_words 59 Tryz.underlying59 (ln n : Int) (ln n) (by omega) (by omega) W
 go_enter Tryz.func68, Tryz.ntmps68
 go_wp2_with fail
 clear hmk; go_loopw [7, 8] (fun s7 s8 wr => ∃ (k R : Nat) (qs : List Nat) (A : Option Addr) (c : Nat), k ≤ ln n ∧ s8 = .int .i64 ((k : Int) - 1) ∧ s7 = .slice A (ln R) c ∧ NN wr A c R ∧ R < m ∧ qs.length = ln n ∧ Dg qs ∧ val ((dig n).drop k) = m * val (qs.drop k) + R ∧ (∀ j, j < k → qs.getD j 0 = 0) ∧ Blk wr w.heap.size 46 (cells qs) ∧ Below w.heap.size w wr) (fun _ s _ => (intOf s + 1).toNat)
 case atStart => exact ⟨ln n, 0, List.replicate (ln n) 0, none, 0, Nat.le_refl _, rfl, by rw [ln_zero], NN.nil _ _ _ (by omega), hmp, by simp, dg_zeros _, by rw [List.drop_eq_nil_of_le (show (dig n).length ≤ ln n from Nat.le_refl _), List.drop_eq_nil_of_le (by simp)]; simp [val], fun j _ => getD_zeros _ _, heap_alloc_new w _, below_alloc (Below.refl _ _) _⟩
 case round =>
  obtain ⟨k, R, qs, A, c, hk, rfl, rfl, hnR, hRm, hql, hqd, hval, hqz, hblk, hbel⟩ := hrel; have HV := Hd.mk hval; have HK := Hd.mk hblk; have HL := Hd.mk hql; have HB := Hd.mk hbel; have HDD := Hd.mk hqd; have HR := Hd.mk hnR; have HZ := Hd.mk hqz; have hlR : ln R ≤ ln m := ln_mono (by omega); clear hval hblk hql hbel hqd hnR hqz; rcases k with _ | k
  ·have hv : n = m * val qs + R := by have := HV.out; rwa [List.drop_zero, List.drop_zero, val_dig] at this
   have hq : val qs = n / m := by rw [hv, Nat.mul_add_div hmp, Nat.div_eq_of_lt hRm]; omega
   have hr : R = n % m := by rw [hv, Nat.mul_add_mod, Nat.mod_eq_of_lt hRm]
   have hc := trim_calls (some ⟨w.heap.size, 0, none⟩) (ln n) qs _ HK.out.reads HDD.out (by have := HL.out; omega) (by omega); have hrn := HK.out.reads.of_take HDD.out; rw [HL.out, hq] at hc; rw [hq] at hrn; have HC := Hd.mk hc; have HN1 : Hd (NN wr (some ⟨w.heap.size, 0, none⟩) (ln n) (n / m)) := ⟨⟨hrn, ln_mono (Nat.div_le_self _ _), by omega⟩⟩; rw [hr] at HR ⊢; clear hv hq hc hrn hr; go_wp2_with fail
   refine HC.out.mono ?_; rintro e w' ⟨rfl, rfl⟩; go_wp2_with fail
   go_ret2
   exact ⟨_, _, _, _, rfl, HN1.out, HR.out, HB.out⟩
  obtain ⟨a1, rfl, hcell1⟩ := (HX.out.to HB.out).at_ (k := k) (by omega); obtain ⟨x, hx⟩ : ∃ x, x = (dig n).getD k 0 := ⟨_, rfl⟩; have hx1 : x < 4294967296 := by rw [hx]; exact dg_get (dg_dig _) k
  rw [← hx] at hcell1; have hd1 := val_drop_cons (xs := dig n) (k := k) (by unfold ln at hk; omega); rw [← hx, HV.out, rlong_step hmp] at hd1; have HD1 := Hd.mk hd1
  have hRB : x + B * R < B * m := by
   have h1 : B * (R + 1) ≤ B * m := Nat.mul_le_mul_left _ hRm; have h2 : B = 4294967296 := rfl; rw [Nat.mul_add] at h1; omega
  have e5 : ((k + 1 : Nat) : Int) - 1 = (k : Int) := by omega
  rw [e5]; clear hd1 e5 hx; have HRB := Hd.mk hRB; clear hRB; go_wp2_with (first | (at_builtin; refine wpList_append_any _ rfl (.tmp 26) (.tmp 27) 59 rfl wr.heap.size 46 i0 (.int .u32 0) 1 4 Tryz.underlying59 hi hz0 hz1 hz2 rfl (by decide) _ 1 (cells [x]) rfl (own_made (ds := [x]) (n := 1) (c := 1) (heap_alloc_new wr _) rfl (Nat.le_refl _) (by omega) (Nat.le_refl _)) _ A (ln R) c (cells (dig R)) rfl (HR.out.1.reads.alloc (Nat.le_refl _) _) (cells_one _) (by unfold maxLen; omega) (by omega) (by simp) ?_; intro v1 w1 hown1 hg1 hat1))
  have hb1 : Below wr.heap.size wr w1 := (below_alloc (Below.refl _ _) _).grown hg1 (by simp) (own_ge (own_made (w := wr.alloc (.cells (cells [x]).toArray 46)) (e := 46) (ds := [x]) (n := 1) (c := 1) (heap_alloc_new wr _) rfl (Nat.le_refl _) (by omega) (Nat.le_refl _)))
  have hown2 : w1.ownsRow wr.heap.size 46 1 v1 ([x] ++ dig R).length (cells ([x] ++ dig R)) := by
   have := hown1; rw [← cells_append] at this; rw [show ([x] ++ dig R).length = 1 + ln R from by simp [ln]; omega]; exact this
  obtain ⟨A3, c3, hv3, hrn, hc3, hcm⟩ := own_slice hown2; have hlen : ([x] ++ dig R).length = 1 + ln R := by simp [ln]; omega
  have hvx : val ([x] ++ dig R) = x + B * R := by show x + B * val (dig R) = _; rw [val_dig]
  have hdg : Dg ([x] ++ dig R) := dg_append (dg_one hx1) (dg_dig R); subst hv3; have hT := trim_calls A3 c3 ([x] ++ dig R) w1 hrn hdg hc3 hcm; have hrn2 := hrn.of_take hdg; rw [hvx] at hT hrn2; obtain ⟨R1, hR1⟩ : ∃ R1, R1 = x + B * R := ⟨_, rfl⟩; have HRB2 : Hd (R1 < B * m) := ⟨by rw [hR1]; exact HRB.out⟩
  have hlR1 : ln R1 ≤ ln m + 2 := by
   have h1 := ln_mul B m; have h2 : ln R1 ≤ ln (B * m) := ln_mono (by have := HRB2.out; omega); have h3 : ln B ≤ 2 := ln_le (by decide); omega
  have hlR2 : ln R1 ≤ c3 := by
   refine Nat.le_trans (ln_le ?_) hc3; have := val_lt hdg; rw [hvx, ← hR1] at this; exact this
  rw [← hR1] at hT hrn2; have HN3 : Hd (NN w1 A3 c3 R1) := ⟨⟨hrn2, hlR2, hcm⟩⟩; have HT := Hd.mk hT; have HD2 : Hd (val ((dig n).drop k) = m * (R1 / m + B * val (qs.drop (k + 1))) + R1 % m) := ⟨by rw [HD1.out, hR1]⟩; rw [hlen]  at HT; have HK1 : Hd (Blk w1 w.heap.size 46 (cells qs)) := ⟨HK.out.to hb1⟩; have HB1 : Hd (Below w.heap.size w w1) := ⟨bel_then HB.out hb1⟩; have hlc1 : ln m ≤ c2 := HY.out.2.1; clear hown1 hown2 hg1 hat1 hb1 hrn hc3 hcm hlen hvx hdg hT hrn2 hR1 HD1 HRB HK HB HV HR hlR2; rw [show ([x] ++ dig R).length = 1 + ln R from by simp [ln]; omega]; go_wp2_with fail
  refine HT.out.mono ?_; rintro e w' ⟨rfl, rfl⟩; go_wp2_with fail
  refine (order_calls A3 c3 R1 A2 c2 m w1 HN3.out (HY.out.to HB1.out)).mono ?_; rintro e w2 ⟨rfl, q2, rfl⟩; by_cases hlt : R1 < m
  ·rw [cmpv_lt hlt]; go_wp2_with fail
   go_roundw
   case rel =>
    refine ⟨k, R1, qs, A3, c3, by omega, rfl, rfl, HN3.out.to (below_drewN (Below.refl _ _) _), hlt, HL.out, HDD.out, ?_, fun j hj => HZ.out j (by omega), HK1.out.to (below_drewN (Below.refl _ _) _), below_drewN HB1.out _⟩; have h1 := HD2.out; rw [Nat.div_eq_of_lt hlt, Nat.mod_eq_of_lt hlt] at h1; rw [h1, val_drop_cons (xs := qs) (k := k) (by rw [HL.out]; omega), HZ.out k (by omega)]
   case measure => simp [intOf]
  have hge := cmpv_ge hlt; have HM := Hd.mk hlt; obtain ⟨cv, hcv⟩ : ∃ cv, cv = cmpv R1 m := ⟨_, rfl⟩; rw [← hcv] at hge ⊢; clear hcv hlt; have HN4 : Hd (NN (w1.drewN q2) A3 c3 R1) := ⟨HN3.out.to (below_drewN (Below.refl _ _) _)⟩; have HK2 : Hd (Blk (w1.drewN q2) w.heap.size 46 (cells qs)) := ⟨HK1.out.to (below_drewN (Below.refl _ _) _)⟩; have HB2 : Hd (Below w.heap.size w (w1.drewN q2)) := ⟨below_drewN HB1.out _⟩; clear HN3 HK1 HB1 HT; obtain ⟨wo, hwo⟩ : ∃ wo, wo = w1.drewN q2 := ⟨_, rfl⟩; rw [← hwo] at HN4 HK2 HB2 ⊢; clear hwo; go_wp2_with fail
  go_loopw [9, 10] (fun s9 s10 wx => ∃ lo hi : Nat, s9 = .int .u64 (lo : Int) ∧ s10 = .int .u64 (hi : Int) ∧ 1 ≤ lo ∧ lo < hi ∧ hi ≤ 4294967296 ∧ m * lo ≤ R1 ∧ R1 < m * hi ∧ Below wo.heap.size wo wx) (fun s9 s10 _ => (intOf s10 - intOf s9).toNat)
  case atStart => exact ⟨1, 4294967296, rfl, rfl, Nat.le_refl _, by omega, Nat.le_refl _, by have := HM.out; omega, by have := HRB2.out; rw [Nat.mul_comm] at this; exact this, Below.refl _ _⟩
  case round =>
   obtain ⟨lo, hi', rfl, rfl, hlo1, hlohi, hhi, hlow, hhigh, hbx⟩ := hrel; have HLO := Hd.mk hlow; have HHI := Hd.mk hhigh; have HBX := Hd.mk hbx; clear hlow hhigh hbx; by_cases hgt : lo + 1 < hi'
   ·obtain ⟨mid, hmid⟩ : ∃ mid, mid = (lo + hi') / 2 := ⟨_, rfl⟩; obtain ⟨hm1, hm2⟩ := halve (m := m) (r := R1) hmid hgt; have hmI : ((lo : Int) + (hi' : Int)) / 2 = (mid : Int) := by rw [hmid]; omega
    have hmw : (mid : Int) % 4294967296 = (mid : Int) := by omega
    have hs := rsmall_calls A2 c2 m mid wr ((HY.out.to HB2.out).to HBX.out) (by omega) (by omega); have HS := Hd.mk hs; clear hs hmid; go_wp2_with fail
    refine HS.out.mono ?_; rintro e w3 ⟨A5, c5, rfl, hn5, hb5⟩; have HN5 := Hd.mk hn5; have HB5 := Hd.mk hb5; clear hn5 hb5; go_wp2_with fail
    refine (order_calls A5 c5 (m * mid) A3 c3 R1 w3 HN5.out ((HN4.out.to HBX.out).to HB5.out)).mono ?_; rintro e w4 ⟨rfl, q4, rfl⟩; have HB6 : Hd (Below wo.heap.size wo (w3.drewN q4)) := ⟨below_drewN (bel_then HBX.out HB5.out) _⟩; by_cases hle : m * mid ≤ R1
    ·have hcl := cmpv_le hle; have HLE := Hd.mk hle; obtain ⟨cv, hcv⟩ : ∃ cv, cv = cmpv (m * mid) R1 := ⟨_, rfl⟩; rw [← hcv] at hcl ⊢; clear hcv hle; go_wp2_with fail
     go_roundw
     case rel => exact ⟨mid, hi', rfl, rfl, by omega, hm2, hhi, HLE.out, HHI.out, HB6.out⟩
     case measure => simp [intOf]; omega
    rw [cmpv_gt (by omega)]; have HLE := Hd.mk hle; clear hle; go_wp2_with fail
    go_roundw
    case rel => exact ⟨lo, mid, rfl, rfl, hlo1, hm1, by omega, HLO.out, by have := HLE.out; omega, HB6.out⟩
    case measure => simp [intOf]; omega
   have hhe : hi' = lo + 1 := by omega
   subst hhe; have hq : R1 / m = lo := quot_of (by rw [Nat.mul_comm]; exact HLO.out) (by rw [Nat.mul_comm]; exact HHI.out); have hr : R1 % m = R1 - m * lo := by have := Nat.div_add_mod R1 m; rw [hq] at this; omega
   have hlw : (lo : Int) % 4294967296 = (lo : Int) := by omega
   have HRL : Hd (R1 - m * lo < m) := ⟨by rw [← hr]; exact Nat.mod_lt _ hmp⟩; have hs := rsmall_calls A2 c2 m lo wr ((HY.out.to HB2.out).to HBX.out) (by omega) (by omega); have HS := Hd.mk hs; have HD3 := HD2.out; rw [hq, hr] at HD3; have HD4 := Hd.mk HD3; clear hs hq hr HD3 HD2; go_wp2_with fail
   refine HS.out.mono ?_; rintro e w3 ⟨A5, c5, rfl, hn5, hb5⟩; have HN5 := Hd.mk hn5; have HB5 := Hd.mk hb5; clear hn5 hb5; go_wp2_with fail
   refine (rless_new A3 c3 R1 A5 c5 (m * lo) w3 ((HN4.out.to HBX.out).to HB5.out) HN5.out HLO.out (by omega)).mono ?_; rintro e w4 ⟨c6, rfl, hn6, hb6⟩; have HN6 := Hd.mk hn6; have HG3 : Hd (w.heap.size < w3.heap.size) := ⟨((HK2.out.to HBX.out).to HB5.out).lt⟩; have hb7 : Below wo.heap.size wo w4 := bel_then (bel_then HBX.out HB5.out) hb6; have HB7 := Hd.mk hb7; have hk4 := HK2.out.to hb7; have hck := hk4.at_ (i := k) (by have := HL.out; omega); have hfz := hk4.frozen k; have HK4 := Hd.mk hk4; have HB8 : Hd (Below w.heap.size w w4) := ⟨bel_then HB2.out hb7⟩; clear hn6 hb6 hb7 hk4; go_wp2_with fail
   go_roundw
   case rel =>
    refine ⟨k, R1 - m * lo, qs.set k lo, some ⟨w3.heap.size, 0, none⟩, c6, by omega, rfl, rfl, HN6.out.set_far (Nat.ne_of_lt HG3.out) _, HRL.out, by rw [List.length_set]; exact HL.out, dg_set HDD.out _ (by unfold B; omega), ?_, fun j hj => ?_, HK4.out.put k lo, below_set HB8.out (Nat.le_refl _) _⟩
    ·rw [HD4.out, val_drop_set (xs := qs) (k := k) (by rw [HL.out]; omega)]
    rw [getD_set_same _ _ _ (by omega)]; exact HZ.out j (by omega)
   case measure => simp [intOf]
def Tab (w : World) : Prop := Go.Lib.TabIs Tryz.prog w "internal/strconv.uint64pow10" .u64 Go.Lib.pow10Tab
theorem Tab.to {w w' : World} (h : Tab w) (hb : Below w.heap.size w w') : Tab w' := Go.Lib.tabBelow_of_tabIs h w' hb
theorem Itoa_calls (n : Nat) (w : World) (hn : n < 1000000000) (ht : Tab w) :
  Calls Tryz.prog 69 #[.int .i64 (n : Int)] w (RetS (Go.Lib.decDigits n) w) :=
 (Go.Proofs.Tryz.strconv_Itoa (n : Int) (by omega) (by omega) w ht).mono fun e w' ⟨he, k, os, hw⟩ => ⟨by rw [he, Go.Lib.itoa_nonneg], by rw [hw]; exact Go.Lib.below_grow _ _ (Nat.le_refl _) _ _⟩
theorem Repeat0_calls (c : Nat) (w : World) (hc : c ≤ 9) :
  Calls Tryz.prog 70 #[.string { data := #[48] }, .int .i64 (c : Int)] w (RetS (List.replicate c 48) w) :=
 (Go.Proofs.Tryz.strings_Repeat { data := #[48] } c w (by omega) (by show 1 * c ≤ _; omega)).mono fun e w' ⟨he, hb⟩ => ⟨by
  rw [he]
  have : Go.Lib.repeatL [48] c = List.replicate c 48 := by
   have := Go.Lib.repeatL_replicate 48 1 c; simpa using this
  show Ending.returned (.string ⟨(Go.Lib.repeatL [48] c).toArray⟩) = _
  rw [this], hb⟩
def strs (ss : List (List UInt8)) : List Value := ss.map fun l => Value.string ⟨l.toArray⟩
theorem strs_one (ss : List (List UInt8)) : ∀ u ∈ strs ss, u.oneCell' = true := by
 intro u hu; obtain ⟨x, _, rfl⟩ := List.mem_map.1 hu; rfl
theorem join_flat : ∀ ss : List (List UInt8), Go.Lib.join ss [] = ss.flatten
 | [] => rfl
 | [x] => by simp [Go.Lib.join, List.intercalate]
 | x :: y :: r => by
  have := join_flat (y :: r); unfold Go.Lib.join at this ⊢; rw [List.flatten_cons, ← this]; simp [List.intercalate]
theorem Join_calls (ss : List (List UInt8)) (base : Nat) (v : Value) (w : World) (h : w.ownsRow base 9 1 v ss.length (strs ss)) (hl : ss ≠ []) (hn : ss.flatten.length ≤ 4000) (hn2 : ss.length ≤ 4000) :
  ∃ g k, v = .slice (some ⟨g, 0, none⟩) ss.length k ∧ Calls Tryz.prog 71 #[.slice (some ⟨g, 0, none⟩) ss.length k, .string { data := #[] }] w (RetS ss.flatten w) := by
 have hp : 0 < ss.length := List.length_pos_iff.2 hl; rcases h.2 with ⟨_, h0⟩ | ⟨g, cap, cur, rfl, hbg, hg, hnc, hcm, hcs, htk⟩
 ·omega
 have hlt : g < w.heap.size := own_lt h g rfl
 have hxs : (ss.map fun l => (⟨l.toArray⟩ : ByteArray)).map (·.data.toList) = ss := by
  rw [List.map_map]; conv => rhs; rw [← List.map_id ss]
  apply List.map_congr_left; intro x _; simp
 have hc := Go.Proofs.Tryz.strings_Join g 0 cap (ss.map fun l => (⟨l.toArray⟩ : ByteArray)) { data := #[] } w (fun j x hj => by
  have := h.cellAt j (by
   have := (List.getElem?_eq_some_iff.1 hj).1
   simp at this; omega)
  rw [Nat.zero_add, this]; unfold strs; rw [List.getElem?_map] at hj ⊢; obtain ⟨y, hy, rfl⟩ := Option.map_eq_some_iff.1 hj; rw [hy]
  rfl) hlt (by simp; omega) (by simp; omega) (by rw [hxs]; show (Go.Lib.join ss []).length ≤ _; rw [join_flat]; omega)
 rw [List.length_map] at hc; refine ⟨g, cap, rfl, hc.mono fun e w' ⟨he, hb⟩ => ⟨?_, hb⟩⟩; rw [he, hxs]; show Ending.returned (.string ⟨(Go.Lib.join ss []).toArray⟩) = _; rw [join_flat]
theorem Tryz.info_str : (Tryz.prog.info? 9).map (fun i => (i.zero, i.size, i.bytes)) = some (some (.string ByteArray.empty), 1, 16) := by kernel_rfl
theorem own_val {w : World} {base : Nat} {e : TypeId} {s : Nat} {v : Value} {n : Nat} {xs : List Value} (h : w.ownsRow base e s v n xs) : ∃ A c, v = .slice A n c := by
 rcases h.2 with ⟨rfl, rfl⟩ | ⟨g, cap, cur, rfl, _⟩ <;> exact ⟨_, _, rfl⟩
theorem own_lit {w : World} {base : Nat} (e : TypeId) (u : Value) (hb : base ≤ w.heap.size) : (w.alloc (.cells #[u] e)).ownsRow base e 1 (.slice (some ⟨w.heap.size, 0, none⟩) 1 1) 1 [u] :=
 ⟨rfl, .inr ⟨_, 1, #[u], rfl, hb, heap_alloc_new w _, Nat.le_refl _, by unfold maxLen; omega, rfl, rfl⟩⟩
theorem dec_pos (r : Nat) : 1 ≤ (Go.Lib.decDigits r).length := by rw [Go.Lib.decDigits_length]; exact Go.Lib.nDigits_pos r
theorem mk_append (a b : List UInt8) : (⟨a.toArray⟩ ++ ⟨b.toArray⟩ : ByteArray) = ⟨(a ++ b).toArray⟩ := by
 apply ByteArray.ext; simp
theorem flat_len {p : List UInt8} {ss : List (List UInt8)} (h : ss.length ≤ ss.flatten.length) (hp : 1 ≤ p.length) : ([p] ++ ss).length ≤ ([p] ++ ss).flatten.length := by
 show ss.length + 1 ≤ (p ++ ss.flatten).length; rw [List.length_append]; omega
def DigOut (w : World) (N m : Nat) (s3 s4 : Value) (wr : World) : Prop :=
 ∃ (ss : List (List UInt8)) (A : Option Addr) (c : Nat), s4 = .slice A (ln m) c ∧ m ≤ N ∧ numd N = numd m ++ ss.flatten ∧ ss.length ≤ ss.flatten.length ∧ wr.ownsRow w.heap.size 9 1 s3 ss.length (strs ss) ∧ NN wr A c m ∧ Below w.heap.size w wr
set_option maxHeartbeats 4000000 in
set_option maxRecDepth 100000 in
theorem rdigits_nat (b : Bool) (N : Nat) (A : Option Addr) (c : Nat) (w : World) (h : NN w A c N) (l1 : ln N ≤ 300) (hrev : (numd N).length ≤ 3000) (ht : Tab w) :
  Calls Tryz.prog 38 #[.agg #[.bool b, .slice A (ln N) c]] w (RetS (if N = 0 then [48] else sgnb b ++ numd N) w) := by
 obtain ⟨i0, hi, hz0, hz1, hz2⟩ := info_parts Tryz.info_str; have HN := Hd.mk h; have HRL := Hd.mk hrev; have HT := Hd.mk ht; obtain ⟨RES, hRES⟩ : ∃ r, r = (if N = 0 then [48] else sgnb b ++ numd N) := ⟨_, rfl⟩; rw [← hRES]; have HRES := Hd.mk hRES; clear h hrev ht hRES; obtain ⟨L, hL⟩ : ∃ L, L = ln N := ⟨_, rfl⟩; rw [← hL] at l1 ⊢; have HLN := Hd.mk hL; clear hL; go_enter Tryz.func38, Tryz.ntmps38
 go_wp2_with fail
 obtain ⟨W0, hW0⟩ : ∃ W : World, W = w.alloc (.cells #[.bool b, .slice A L c] 61) := ⟨_, rfl⟩; rw [← hW0]; have HSZ : Hd (w.heap.size + 1 = W0.heap.size) := ⟨by rw [hW0]; simp⟩; obtain ⟨hB0, hBW⟩ := boxes1 hW0; have q0 := hB0.c0; have q1 := hB0.c1; have Q0 := Hd.mk hB0; have HW := Hd.mk hBW; have HB : Hd (Below W0.heap.size W0 W0) := ⟨Below.refl _ _⟩; clear hB0 hBW hW0; go_loopg [3, 4] N (fun g s3 s4 wr => ∃ gm, gm ≤ g ∧ DigOut W0 N gm s3 s4 wr)
 case atStart => exact ⟨N, Nat.le_refl _, [], A, c, by rw [HLN.out], Nat.le_refl _, by simp, Nat.le_refl _, ⟨rfl, .inl ⟨rfl, rfl⟩⟩, HN.out.to HW.out, Below.refl _ _⟩
 case round =>
  obtain ⟨gm, hgg, ss, A4, c4, rfl, hmN, hrv, hsl, hown, hnn, hbel⟩ := hrel; obtain ⟨wa, rfl⟩ : ∃ wa : World, wa = wr := ⟨_, rfl⟩; obtain ⟨Ar, cr, rfl⟩ := own_val hown; have HO := Hd.mk hown; have HN4 := Hd.mk hnn; have HB := Hd.mk hbel; have HRV := Hd.mk hrv; have HSL := Hd.mk hsl; have HLEN : Hd (ss.flatten.length ≤ 3000) := ⟨by have := HRL.out; rw [hrv, List.length_append] at this; omega⟩; clear hrv hown hnn hbel hsl; have hlen : ln gm ≤ L := by rw [HLN.out]; exact ln_mono hmN
  by_cases hm : gm = 0
  ·have hlz : ln gm = 0 := ln_eq_zero.2 hm; rw [hlz]; clear hlz; have hnf : numd N = ss.flatten := by have := HRV.out; rw [hm, numd_zero, List.nil_append] at this; exact this
   by_cases hN0 : N = 0
   ·have hss : ss.length = 0 := by
     rw [hN0, numd_zero] at hnf; have := HSL.out; rw [← hnf] at this; simpa using this
    have hR : RES = [48] := by rw [HRES.out, if_pos hN0]
    have HR := Hd.mk hR; rw [hss]; clear hss hR hnf; go_wp2_with fail
    go_ret
    exact ⟨by rw [HR.out]; rfl, bel_then HW.out HB.out⟩
   have hssn : ss ≠ [] := by
    intro e; rw [e] at hnf; have h1 := decDigits_revd N hN0; have h2 := dec_pos N; rw [h1] at h2; unfold numd at hnf; rw [hnf] at h2; simp at h2
   have hsp : 0 < ss.length := List.length_pos_iff.2 hssn; obtain ⟨g8, k8, hv8, hJ⟩ := Join_calls ss W0.heap.size _ wa HO.out hssn (by have := HLEN.out; omega) (by have := HLEN.out; have := HSL.out; omega); injection hv8 with hv8 _ hv9
   subst hv8 hv9; have HJ := Hd.mk hJ; have hR : RES = sgnb b ++ ss.flatten := by rw [HRES.out, if_neg hN0, hnf]
   have HR := Hd.mk hR; have hsl2 : ss.length ≤ 3000 := Nat.le_trans HSL.out HLEN.out; replace q0 := (Q0.out.to HB.out).c0; clear hR hnf hJ hssn; obtain ⟨F, hF⟩ : ∃ F, F = ss.flatten := ⟨_, rfl⟩; have hfl : F.length ≤ 3000 := by rw [hF]; exact HLEN.out
   rw [← hF] at HR HJ; clear hF; cases b
   ·go_wp2_with fail
    refine HJ.out.mono ?_; rintro e w2 ⟨rfl, hb2⟩; have HB2 := Hd.mk hb2; clear hb2; go_wp2_with fail
    go_ret
    exact ⟨by rw [HR.out]; rfl, bel_then HW.out (bel_then HB.out HB2.out)⟩
   go_wp2_with fail
   refine HJ.out.mono ?_; rintro e w2 ⟨rfl, hb2⟩; have HB2 := Hd.mk hb2; clear hb2; go_wp2_with fail
   go_ret
   exact ⟨by rw [HR.out]; exact congrArg (fun x => Ending.returned (.string x)) (mk_append [45] F), bel_then HW.out (bel_then HB.out HB2.out)⟩
  have hl : 0 < ln gm := Nat.pos_of_ne_zero (fun h => hm (ln_eq_zero.1 h)); obtain ⟨q, hq⟩ : ∃ q, q = gm / 1000000000 := ⟨_, rfl⟩; obtain ⟨r, hr⟩ : ∃ r, r = gm % 1000000000 := ⟨_, rfl⟩; have hr9 : r < 1000000000 := by omega
  have hqg : q < gm := by omega
  have hqr : q = 0 → r ≠ 0 := by omega
  have HQ := Hd.mk hq; have HR := Hd.mk hr; obtain ⟨L4, hL4⟩ : ∃ L, L = ln gm := ⟨_, rfl⟩; have HL4 := Hd.mk hL4; rw [← hL4] at hl hlen ⊢; clear hq hr hL4; have hl9 : ln 1000000000 ≤ 2 := ln_le (by show 1000000000 < 4294967296 ^ 2; decide); have HN9 := Hd.mk (natural_calls 1000000000 hl9 wa); go_wp2_with fail
  refine HN9.out.mono ?_; rintro e w1 ⟨A5, c5, rfl, hn5, hb1⟩; have HD := Hd.mk (divided_calls A4 c4 gm A5 c5 1000000000 w1 (HN4.out.to hb1) hn5 (by decide) (by rw [← HL4.out]; omega) (by omega)); rw [← HL4.out, ← HQ.out, ← HR.out] at HD; have HB1 : Hd (Below W0.heap.size W0 w1) := ⟨bel_then HB.out hb1⟩; have HO1 := Hd.mk (own_to HO.out hb1); clear hn5 hb1 hl9; go_wp2_with fail
  refine HD.out.mono ?_; rintro e w2 ⟨A6, c6, A7, c7, rfl, hn6, hn7, hb2⟩; have HO2 := Hd.mk (own_to HO1.out hb2); have HN6 := Hd.mk hn6; have HN7 := Hd.mk hn7; have HB2 : Hd (Below W0.heap.size W0 w2) := ⟨bel_then HB1.out hb2⟩; clear hn6 hn7 hb2 HD HN9 HO1 HB1; have hlr1 : ln r ≤ 1 := ln_le (by show r < 4294967296 ^ 1; omega); have HTB := Hd.mk (HT.out.to (bel_then HW.out HB2.out)); obtain ⟨pt, hpt⟩ : ∃ pt, pt = Go.Lib.decDigits r := ⟨_, rfl⟩; have hpl : pt.length ≤ 9 := by rw [hpt]; exact dec_len (k := 9) (by omega) (by omega)
  have HI := Hd.mk (Itoa_calls r w2 hr9 HTB.out); rw [← hpt] at HI; have HPT := Hd.mk hpt; clear hpt; by_cases hr0 : r = 0
  case' pos =>
   have hlr : ln r = 0 := ln_eq_zero.2 hr0; have hI := HI.out; rw [hr0] at hI; rw [hlr]; clear hlr hlr1; have HR0 := Hd.mk hr0; clear HI hr0; have HI := Hd.mk hI; clear hI; go_wp2_with fail
   refine HI.out.mono ?_
  case' neg =>
   have hlr : ln r = 1 := by have h1 : ln r ≠ 0 := fun h => hr0 (ln_eq_zero.1 h); omega
   obtain ⟨ad, rfl, hcell⟩ := HN7.out.at_ (k := 0) (by omega); rw [dig_getD, Nat.pow_zero, Nat.div_one, show r % B = r from Nat.mod_eq_of_lt (by unfold B; omega)] at hcell; have hcell0 : w2.cell? ad = some (.int .u32 (r : Int)) := hcell; rw [hlr]; clear hlr hcell; go_wp2_with fail
   refine HI.out.mono ?_; clear hcell0
  all_goals
   rintro e w3 ⟨rfl, hb3⟩; have HO3 := Hd.mk (own_to HO2.out hb3); have HN8 := Hd.mk (HN6.out.to hb3); have HB3 : Hd (Below W0.heap.size W0 w3) := ⟨bel_then HB2.out hb3⟩; clear hb3; by_cases hq0 : q = 0
   ·have hlq : ln q = 0 := ln_eq_zero.2 hq0; rw [hlq]
    have hpart : numd N = numd q ++ ([pt] ++ ss).flatten := by
     rw [HRV.out, numd_last hm (by rw [← HQ.out, hq0]), ← HQ.out, ← HR.out, ← HPT.out]; simp
    have HPART := Hd.mk hpart; have HPL : Hd (1 ≤ pt.length) := ⟨by rw [HPT.out]; exact dec_pos r⟩; have HLQ := Hd.mk hlq; clear hpart hlq; have HAP : Hd (Apart (.slice (some ⟨w3.heap.size, 0, none⟩) 1 1) A6 q) := ⟨fun ad e hm' he => by obtain ⟨ad', e', hlt⟩ := NN.lt (by first | exact HN8.out | exact HN9.out) hm'; rw [e] at e'; cases e'; injection he with he; simp at he; omega⟩; go_wp2_with (at_builtin; refine wpList_append_any _ rfl (.tmp 39) (.tmp 40) 103 rfl W0.heap.size 9 i0 (.string ByteArray.empty) 1 16 Tryz.underlying103 hi hz0 hz1 hz2 rfl (by decide) _ 1 _ rfl (own_lit _ _ (by first | exact HB3.out.size | exact HB4.out.size)) _ Ar ss.length cr (strs ss) rfl (Reads.of_own (by first | exact HO3.out.alloc _ | exact HO4.out.alloc _)) (strs_one ss) (by have := HSL.out; have := HLEN.out; unfold maxLen; omega) (by have := HSL.out; have := HLEN.out; omega) (by first | (have := HB3.out.size; simp; omega) | (have := HB4.out.size; simp; omega)) ?_; intro v5 w5 hown5 hg5 hat5)
    have hown5' : w5.ownsRow W0.heap.size 9 1 v5 ([pt] ++ ss).length (strs ([pt] ++ ss)) := by rw [List.length_append]; exact hown5
    go_roundg q
    case measure => omega
    case rel =>
     exact ⟨q, Nat.le_refl _, [pt] ++ ss, _, _, by rw [HLQ.out], by omega, HPART.out, flat_len HSL.out HPL.out, hown5', (HN8.out.to (below_alloc (Below.refl _ _) _)).grown hg5 HAP.out, (below_alloc HB3.out _).grown hg5 (by have := HB3.out.size; simp; omega) (own_ge (own_lit 9 (.string ⟨pt.toArray⟩) HB3.out.size))⟩
   have hlq : 0 < ln q := Nat.pos_of_ne_zero (fun h => hq0 (ln_eq_zero.1 h)); have hlq2 : ln q ≤ L := Nat.le_trans (by rw [HL4.out]; exact ln_mono (by omega)) hlen; obtain ⟨p2, hp2⟩ : ∃ p2, p2 = List.replicate (9 - pt.length) 48 ++ pt := ⟨_, rfl⟩
   have hpart : numd N = numd q ++ ([p2] ++ ss).flatten := by
    have := numd_more (m := gm) (by rw [← HQ.out]; exact hq0); rw [← HQ.out, ← HR.out, ← HPT.out, ← hp2] at this; rw [HRV.out, this]; simp
   have HPART := Hd.mk hpart; have HP2 := Hd.mk hp2; have HPL : Hd (1 ≤ p2.length) := ⟨by have := dec_pos r; rw [hp2, List.length_append, HPT.out]; omega⟩; clear hpart hp2; go_wp2_with fail
   rw [show (9 : Int) - (pt.length : Int) = ((9 - pt.length : Nat) : Int) by omega]; refine (Repeat0_calls _ w3 (by omega)).mono ?_; rintro e w4 ⟨rfl, hb4⟩; have HO4 := Hd.mk (own_to HO3.out hb4); have HN9 := Hd.mk (HN8.out.to hb4); have HB4 : Hd (Below W0.heap.size W0 w4) := ⟨bel_then HB3.out hb4⟩; clear hb4 HO3 HN8 HB3; go_upto_region 11 with (fail)
   have e8 : ({ data := Array.replicate (9 - pt.length) 48 } ++ { data := pt.toArray } : ByteArray) = ⟨p2.toArray⟩ := by
    rw [HP2.out, ← mk_append]; simp
   rw [e8]; clear e8; have HAP : Hd (Apart (.slice (some ⟨w4.heap.size, 0, none⟩) 1 1) A6 q) := ⟨fun ad e hm' he => by obtain ⟨ad', e', hlt⟩ := NN.lt (by first | exact HN8.out | exact HN9.out) hm'; rw [e] at e'; cases e'; injection he with he; simp at he; omega⟩; go_wp2_with (at_builtin; refine wpList_append_any _ rfl (.tmp 39) (.tmp 40) 103 rfl W0.heap.size 9 i0 (.string ByteArray.empty) 1 16 Tryz.underlying103 hi hz0 hz1 hz2 rfl (by decide) _ 1 _ rfl (own_lit _ _ (by first | exact HB3.out.size | exact HB4.out.size)) _ Ar ss.length cr (strs ss) rfl (Reads.of_own (by first | exact HO3.out.alloc _ | exact HO4.out.alloc _)) (strs_one ss) (by have := HSL.out; have := HLEN.out; unfold maxLen; omega) (by have := HSL.out; have := HLEN.out; omega) (by first | (have := HB3.out.size; simp; omega) | (have := HB4.out.size; simp; omega)) ?_; intro v5 w5 hown5 hg5 hat5)
   have hown5' : w5.ownsRow W0.heap.size 9 1 v5 ([p2] ++ ss).length (strs ([p2] ++ ss)) := by rw [List.length_append]; exact hown5
   go_roundg q
   case measure => omega
   case rel =>
    exact ⟨q, Nat.le_refl _, [p2] ++ ss, _, _, rfl, by omega, HPART.out, flat_len HSL.out HPL.out, hown5', (HN9.out.to (below_alloc (Below.refl _ _) _)).grown hg5 HAP.out, (below_alloc HB4.out _).grown hg5 (by have := HB4.out.size; simp; omega) (own_ge (own_lit 9 (.string ⟨p2.toArray⟩) HB4.out.size))⟩
theorem rev_len {N k : Nat} (h : ln N ≤ k) : (revd N).length ≤ 10 * k :=
 revd_len (10 * k) N (Nat.lt_of_lt_of_le (ln_le_iff.1 h) (by rw [Nat.pow_mul]; exact Nat.pow_le_pow_left (by decide) k))
theorem itoa_sgn (z : Int) : Go.Lib.itoa z = if z.natAbs = 0 then [48] else sgnb (decide (z < 0)) ++ numd z.natAbs := by
 by_cases h0 : z.natAbs = 0
 ·rw [if_pos h0]; have : z = 0 := by omega
  subst this; simp [Go.Lib.itoa, Go.Lib.decDigits]
 rw [if_neg h0, numd_pos h0]; unfold Go.Lib.itoa; by_cases h : z < 0
 ·rw [if_pos h, decide_eq_true h]; rfl
 rw [if_neg h, decide_eq_false h]; have : z.toNat = z.natAbs := by omega
 rw [this]; rfl
theorem text_calls (z : Int) (A : Option Addr) (c : Nat) (w : World) (h : NN w A c z.natAbs) (l1 : ln z.natAbs ≤ 300) :
  Calls Tryz.prog 37 #[.agg #[.bool (decide (z < 0)), .slice A (ln z.natAbs) c]] w (RetS (Go.Lib.itoa z) w) := by
 rw [itoa_sgn]; by_cases h0 : z.natAbs = 0
 ·rw [if_pos h0, h0, ln_zero, decide_eq_false (by omega)]; exact text_zero A c w
 rw [if_neg h0]; exact text_pos _ _ A c w h l1 h0 (rev_len l1)
theorem rdigits_calls (z : Int) (A : Option Addr) (c : Nat) (w : World) (h : NN w A c z.natAbs) (l1 : ln z.natAbs ≤ 300) (ht : Tab w) :
  Calls Tryz.prog 38 #[.agg #[.bool (decide (z < 0)), .slice A (ln z.natAbs) c]] w (RetS (Go.Lib.itoa z) w) := by
 rw [itoa_sgn]; exact rdigits_nat _ _ A c w h l1 (by unfold numd; rw [List.length_reverse]; exact rev_len l1) ht
def RetSE (l : List UInt8) (k : Int) (w : World) (e : Ending) (w' : World) : Prop := e = .returned (.tuple #[.string ⟨l.toArray⟩, .int .i64 k]) ∧ Below w.heap.size w w'
end Go.Proofs.YtdfhhceboacdcaaGreatDoor
