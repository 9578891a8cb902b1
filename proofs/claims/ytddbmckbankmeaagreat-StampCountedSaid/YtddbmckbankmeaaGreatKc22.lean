/- Part 22 of the texts behind this claim. -/
import Derived.Deep.CutBlock
import Derived.Test.YtddbmckbankmeaaGreatKc21
set_option linter.unusedVariables false
namespace Go.Proofs.YtddbmckbankmeaaGreat.Ex
open Go.RowKit
theorem only_setCell {a w : World} {g : Nat} (h : a.grownBy w (some g)) {p : Addr} (hp : p.block = g) (u : Value) : a.grownBy (w.setCell p u) (some g) :=
 ⟨h.os, h.tape, h.output, by simpa [World.setCell] using h.size, fun i hi hne => (Below.heap_setCell w p u i (by
  rintro rfl
  exact hne (by rw [hp]))).trans (h.block i hi hne)⟩
def Far (A : Option Addr) (g : Nat) : Prop := ∀ ad, A = some ad → ad.block ≠ g
theorem RN.only {w w' : World} {A : Option Addr} {xs : List Nat} {g : Nat} (h : RN w A xs) (hg : w.grownBy w' (some g)) (hA : Far A g) : RN w' A xs := fun hn => by
 obtain ⟨ad, e, hc⟩ := h hn; refine ⟨ad, e, fun j hj => ?_⟩; have h1 := hc j hj; rw [← h1]; have hlt := World.block_lt_of_cell? w _ h1; refine World.cell?_of_block (hg.block _ hlt (fun h2 => ?_)); rw [block_add] at h2; exact hA ad e (Option.some.inj h2)
theorem NN.only {w w' : World} {A : Option Addr} {c n g : Nat} (h : NN w A c n) (hg : w.grownBy w' (some g)) (hA : Far A g) : NN w' A c n := ⟨h.1.only hg hA, h.2⟩
theorem _root_.Go.Proofs.YtddbmckbankmeaaGreat.Blk.only {w w' : World} {g g' : Nat} {t : TypeId} {cs : List Value} (h : Blk w g' t cs) (hg : w.grownBy w' (some g)) (hne : g' ≠ g) : Blk w' g' t cs :=
 (hg.block g' h.lt (fun e => hne (Option.some.inj e))).trans h
theorem seg_get {pre : List Value} {us : List Nat} {post : List Value} {j i : Nat} (hj : pre.length = j) (hi : i < us.length) : (pre ++ (cells us ++ post))[j + i]? = some (.int .u32 ((us.getD i 0 : Nat) : Int)) := by
 rw [List.getElem?_append_right (by omega), hj, Nat.add_sub_cancel_left, List.getElem?_append_left (by rw [cells_length]; exact hi), cells_get us hi]
theorem seg_set {pre : List Value} {us : List Nat} {post : List Value} {j i x : Nat} (hj : pre.length = j) (hi : i < us.length) : (pre ++ (cells us ++ post)).set (j + i) (.int .u32 ((x : Nat) : Int)) = pre ++ (cells (us.set i x) ++ post) := by
 rw [List.set_append_right _ _ (by omega), hj, Nat.add_sub_cancel_left, List.set_append_left _ _ (by rw [cells_length]; exact hi), cells_set]
theorem over_next {ds us : List Nat} {k : Nat} (hl : ds.length = k) (hk : k < us.length) (x : Nat) : (ds ++ us.drop k).set k x = (ds ++ [x]) ++ us.drop (k + 1) := by
 rw [List.set_append_right _ _ (by omega), hl, Nat.sub_self, List.drop_eq_getElem_cons hk, List.set_cons_zero]; simp
theorem over_get {ds us : List Nat} {k : Nat} (hl : ds.length = k) (hk : k < us.length) : (ds ++ us.drop k).getD k 0 = us.getD k 0 := by
 rw [List.getD_eq_getElem?_getD, List.getElem?_append_right (by omega), hl, Nat.sub_self, List.getElem?_drop, List.getD_eq_getElem?_getD, Nat.add_zero]
theorem take_step {ds : List Nat} {k c bw u y g U V : Nat} (hl : ds.length = k) (hu : u < 4294967296) (hb : bw ≤ 1) (h : val ds + g * V = U + B ^ k * c + B ^ k * bw) :
  val (ds ++ [(4294967296 + u - (g * y + c) % 4294967296 - bw) % 4294967296]) + g * (V + B ^ k * y) = (U + B ^ k * u) + B ^ (k + 1) * ((g * y + c) / 4294967296) + B ^ (k + 1) * (if u < (g * y + c) % 4294967296 + bw then 1 else 0) := by
 have hx : (g * y + c) % 4294967296 < 4294967296 := Nat.mod_lt _ (by decide); have e := sub_digit hu hx hb
 have e0 : B ^ k * ((g * y + c) % 4294967296) + B ^ k * (B * ((g * y + c) / 4294967296)) = B ^ k * (g * y) + B ^ k * c := by
  rw [← Nat.mul_add, ← Nat.mul_add]; congr 1
  exact Nat.mod_add_div _ _
 generalize (4294967296 + u - (g * y + c) % 4294967296 - bw) % 4294967296 = d at e ⊢; generalize (if u < (g * y + c) % 4294967296 + bw then 1 else 0 : Nat) = z at e ⊢; generalize (g * y + c) % 4294967296 = x at e e0 ⊢; generalize (g * y + c) / 4294967296 = c2 at e0 ⊢; rw [val_snoc, hl, Nat.pow_succ, Nat.mul_assoc, Nat.mul_assoc, Nat.mul_add, Nat.mul_left_comm g]; have e2 : B ^ k * (d + x + bw) = B ^ k * (u + B * z) := by rw [e]; rfl
 rw [Nat.mul_add, Nat.mul_add, Nat.mul_add] at e2; omega
def RetTake (us : List Nat) (q L gB : Nat) (pre post : List Value) (w : World) (e : Ending) (w' : World) : Prop := e = .returned (.bool (decide (val us < q))) ∧ ∃ ds : List Nat, ds.length = L ∧ Dg ds ∧ val ds + q = val us + (if val us < q then B ^ L else 0) ∧ Blk w' gB 123 (pre ++ (cells ds ++ post)) ∧ w.grownBy w' (some gB)
set_option maxHeartbeats 2000000 in
set_option maxRecDepth 100000 in
theorem take_calls (gB j L cu : Nat) (pre post : List Value) (us : List Nat) (A2 : Option Addr) (c2 v g : Nat) (w : World) (hp : pre.length = j) (hu : us.length = L) (hdu : Dg us) (hBk : Blk w gB 123 (pre ++ (cells us ++ post))) (h2 : NN w A2 c2 v) (hA : Far A2 gB) (hL : L ≤ 1073741824) (hj : j ≤ 1073741824) (hcu : L ≤ cu) (hlv : ln v < L) (hg : g < 4294967296) :
  Calls Tryz.prog 121 #[.slice (some ⟨gB, j, none⟩) L cu, .slice A2 (ln v) c2, .int .u32 (g : Int)] w (RetTake us (g * v) L gB pre post w) := by
 have HY := Hd.mk h2; have HK0 := Hd.mk hBk; have HP := Hd.mk hp; have HU := Hd.mk hu; have HDU := Hd.mk hdu; have HA := Hd.mk hA; clear h2 hBk hp hu hdu hA; go_enter Tryz.func121, Tryz.ntmps121
 go_wp2
 go_loopw [7, 8, 14] (fun s7 s8 s14 wr => ∃ (k c bw : Nat) (ds : List Nat), k ≤ L ∧ s14 = .int .i64 k ∧ s7 = .int .u64 (c : Int) ∧ s8 = .int .u32 (bw : Int) ∧ c < 4294967296 ∧ bw ≤ 1 ∧ (ln v < k → c = 0) ∧ ds.length = k ∧ Dg ds ∧ val ds + g * val ((dig v).take k) = val (us.take k) + B ^ k * c + B ^ k * bw ∧ Blk wr gB 123 (pre ++ (cells (ds ++ us.drop k) ++ post)) ∧ w.grownBy wr (some gB)) (fun _ _ s _ => L - (intOf s).toNat)
 case atStart => exact ⟨0, 0, 0, [], Nat.zero_le _, rfl, rfl, rfl, by omega, by omega, fun _ => rfl, rfl, (fun x hx => by cases hx), by simp [val], HK0.out, World.grownBy.refl _ _⟩
 case round =>
  obtain ⟨k, c, bw, ds, hk, rfl, rfl, rfl, hc, hbw, hc0, hdl, hdd, hval, hblk, hgr⟩ := hrel; have HV := Hd.mk hval; have HK := Hd.mk hblk; have HL := Hd.mk hdl; have HG := Hd.mk hgr; have HDD := Hd.mk hdd; have HC0 := Hd.mk hc0; clear hval hblk hdl hgr hdd hc0; by_cases hkl : k < L
  ·have hkl2 : (ds ++ us.drop k).length = L := by rw [List.length_append, List.length_drop, HL.out, HU.out]; omega
   have hck : wr.cell? ⟨gB, j + k, none⟩ = some (.int .u32 ((us.getD k 0 : Nat) : Int)) := by
    rw [HK.out.cell, seg_get HP.out (by omega), over_get HL.out (by have := HU.out; omega)]
   have hfz := HK.out.frozen (j + k); obtain ⟨u, huq⟩ : ∃ u, u = us.getD k 0 := ⟨_, rfl⟩; have hul : u < 4294967296 := by rw [huq]; exact dg_get HDU.out k
   rw [← huq] at hck; obtain ⟨y, hy⟩ : ∃ y, y = (dig v).getD k 0 := ⟨_, rfl⟩; have hyl : y < 4294967296 := by rw [hy]; exact dg_get (dg_dig v) k
   have hstep := take_step (ds := ds) (k := k) (c := c) (bw := bw) (u := u) (y := y) (g := g) HL.out hul hbw HV.out; rw [huq, ← val_take_next, hy, ← val_take_next, ← hy, ← huq] at hstep; obtain ⟨hf1, hf2, hf3⟩ := mul_fits (x := g) (y := y) (o := 0) (c := c) hg hyl (by omega) hc; rw [Nat.add_zero] at hf2 hf3; obtain ⟨p, hpq⟩ : ∃ p, p = g * y := ⟨_, rfl⟩; rw [← hpq] at hf1 hf2 hf3 hstep; obtain ⟨x, hx⟩ : ∃ x, x = (p + c) % 4294967296 := ⟨_, rfl⟩; obtain ⟨c3, hc3⟩ : ∃ c3, c3 = (p + c) / 4294967296 := ⟨_, rfl⟩; have hxl : x < 4294967296 := by omega
   rw [← hc3] at hf3; rw [← hx, ← hc3] at hstep; have hput := HK.out.set_ (j + k) (.int .u32 (((4294967296 + u - x - bw) % 4294967296 : Nat) : Int)); rw [seg_set HP.out (by omega), over_next HL.out (by have := HU.out; omega)] at hput; have HS := Hd.mk (fun W => sub32_calls u x bw hul hxl hbw W); have hb1 : (if u < x + bw then 1 else 0 : Nat) ≤ 1 := by split <;> omega
   obtain ⟨b2, hb2⟩ : ∃ b2 : Nat, b2 = (if u < x + bw then 1 else 0 : Nat) := ⟨_, rfl⟩; obtain ⟨dd, hdd2⟩ : ∃ dd : Nat, dd = (4294967296 + u - x - bw) % 4294967296 := ⟨_, rfl⟩; have hddl : dd < B := by rw [hdd2]; exact Nat.mod_lt _ (by decide)
   rw [← hb2, ← hdd2] at hstep HS; rw [← hb2] at hb1; rw [← hdd2] at hput; have e1 : ((p : Int) + (c : Int)) % 4294967296 = (x : Int) := by omega
   have e2 : ((p : Int) + (c : Int)) / 4294967296 = (c3 : Int) := by omega
   have e3 : (g : Int) * (y : Int) = (p : Int) := by rw [hpq]; exact (Int.natCast_mul g y).symm
   have hf2' : (p : Int) + (c : Int) ≤ 18446744073709551615 := by omega
   have HST := Hd.mk hstep; have HPT := Hd.mk hput; by_cases hkq : k < ln v
   ·obtain ⟨a2, rfl, hcell2⟩ := (HY.out.only HG.out HA.out).at_ hkq; rw [← hy] at hcell2; have HC3 : Hd (ln v < k + 1 → c3 = 0) := ⟨fun h => by omega⟩; clear hstep hput hb2 hdd2 hpq hx hc3 huq hy hkl2; go_wp2_with (first | (go_at_call 117; refine (HS.out _).mono ?_; rintro e w' ⟨rfl, rfl⟩))
    go_roundw
    case rel => exact ⟨k + 1, c3, b2, ds ++ [dd], by omega, by go_num, by first | rfl | rw [e2], rfl, hf3, hb1, HC3.out, by rw [List.length_append, HL.out]; rfl, dg_append HDD.out (dg_one hddl), HST.out, HPT.out, only_setCell HG.out rfl _⟩
    case measure => simp [intOf]; omega
   have hy0 : y = 0 := by rw [hy]; exact getD_zero_of_le (by unfold ln at hkq; omega)
   have hp0 : p = 0 := by rw [hpq, hy0]; rfl
   have hxc : x = c := by omega
   have hc30 : c3 = 0 := by omega
   have e4 : (c : Int) % 4294967296 = (c : Int) := by omega
   rw [hxc] at HS; rw [hc30] at HST; clear hstep hput hb2 hdd2 hpq hx hc3 huq hy hkl2 hy0 hp0 e1 e2 e3 hxc; go_wp2_with (first | (go_at_call 117; refine (HS.out _).mono ?_; rintro e w' ⟨rfl, rfl⟩))
   go_roundw
   case rel => exact ⟨k + 1, 0, b2, ds ++ [dd], by omega, by go_num, rfl, rfl, by omega, hb1, fun _ => rfl, by rw [List.length_append, HL.out]; rfl, dg_append HDD.out (dg_one hddl), HST.out, HPT.out, only_setCell HG.out rfl _⟩
   case measure => simp [intOf]; omega
  have hke : k = L := by omega
  subst hke; have hcz := HC0.out hlv; have hv := HV.out; rw [hcz, List.take_of_length_le (show us.length ≤ k by have := HU.out; omega), List.take_of_length_le (show (dig v).length ≤ k by rw [dig_length]; omega), val_dig] at hv; have hdlt := val_lt HDD.out; rw [HL.out] at hdlt
  have hblk : Blk wr gB 123 (pre ++ (cells ds ++ post)) := by
   have := HK.out; rwa [List.drop_eq_nil_of_le (by have := HU.out; omega), List.append_nil] at this
  have HKK := Hd.mk hblk
  have hcase : decide (val us < g * v) = decide (bw ≠ 0) ∧ val ds + g * v = val us + (if val us < g * v then B ^ k else 0) := by
   rcases Nat.lt_or_ge bw 1 with h | h
   ·have : bw = 0 := by omega
    subst this; have hn : ¬ val us < g * v := by omega
    rw [if_neg hn]; exact ⟨by simp [hn], by omega⟩
   have : bw = 1 := by omega
   subst this; have hn : val us < g * v := by omega
   rw [if_pos hn]; exact ⟨by simp [hn], by omega⟩
  have HCS := Hd.mk hcase; clear hcase hv hblk hdlt hcz; go_wp2_with fail
  go_ret
  refine ⟨?_, ds, HL.out, HDD.out, HCS.out.2, HKK.out, HG.out⟩; rw [HCS.out.1]; exact ret_bool (by rw [Bool.eq_iff_iff]; simp; try omega)
def RetGive (us : List Nat) (q L gB : Nat) (pre post : List Value) (w : World) (e : Ending) (w' : World) : Prop := e = .returned (.tuple #[]) ∧ ∃ ds : List Nat, ds.length = L ∧ Dg ds ∧ val ds = (val us + q) % B ^ L ∧ Blk w' gB 123 (pre ++ (cells ds ++ post)) ∧ w.grownBy w' (some gB)
set_option maxHeartbeats 2000000 in
set_option maxRecDepth 100000 in
theorem give_calls (gB j L cu : Nat) (pre post : List Value) (us : List Nat) (A2 : Option Addr) (c2 v : Nat) (w : World) (hp : pre.length = j) (hu : us.length = L) (hdu : Dg us) (hBk : Blk w gB 123 (pre ++ (cells us ++ post))) (h2 : NN w A2 c2 v) (hA : Far A2 gB) (hL : L ≤ 1073741824) (hj : j ≤ 1073741824) (hcu : L ≤ cu) (hlv : ln v ≤ L) :
  Calls Tryz.prog 122 #[.slice (some ⟨gB, j, none⟩) L cu, .slice A2 (ln v) c2] w (RetGive us v L gB pre post w) := by
 have HY := Hd.mk h2; have HK0 := Hd.mk hBk; have HP := Hd.mk hp; have HU := Hd.mk hu; have HDU := Hd.mk hdu; have HA := Hd.mk hA; clear h2 hBk hp hu hdu hA; go_enter Tryz.func122, Tryz.ntmps122
 go_wp2
 go_loopw [4, 9] (fun s4 s9 wr => ∃ (k cy : Nat) (ds : List Nat), k ≤ L ∧ s9 = .int .i64 k ∧ s4 = .int .u32 (cy : Int) ∧ cy ≤ 1 ∧ ds.length = k ∧ Dg ds ∧ val ds + B ^ k * cy = val (us.take k) + val ((dig v).take k) ∧ Blk wr gB 123 (pre ++ (cells (ds ++ us.drop k) ++ post)) ∧ w.grownBy wr (some gB)) (fun _ s _ => L - (intOf s).toNat)
 case atStart => exact ⟨0, 0, [], Nat.zero_le _, rfl, rfl, by omega, rfl, (fun x hx => by cases hx), by simp [val], HK0.out, World.grownBy.refl _ _⟩
 case round =>
  obtain ⟨k, cy, ds, hk, rfl, rfl, hcy, hdl, hdd, hval, hblk, hgr⟩ := hrel; have HV := Hd.mk hval; have HK := Hd.mk hblk; have HL := Hd.mk hdl; have HG := Hd.mk hgr; have HDD := Hd.mk hdd; clear hval hblk hdl hgr hdd; by_cases hkl : k < L
  ·have hkl2 : (ds ++ us.drop k).length = L := by rw [List.length_append, List.length_drop, HL.out, HU.out]; omega
   have hck : wr.cell? ⟨gB, j + k, none⟩ = some (.int .u32 ((us.getD k 0 : Nat) : Int)) := by
    rw [HK.out.cell, seg_get HP.out (by omega), over_get HL.out (by have := HU.out; omega)]
   have hfz := HK.out.frozen (j + k); obtain ⟨u, huq⟩ : ∃ u, u = us.getD k 0 := ⟨_, rfl⟩; have hul : u < 4294967296 := by rw [huq]; exact dg_get HDU.out k
   rw [← huq] at hck; obtain ⟨y, hy⟩ : ∃ y, y = (dig v).getD k 0 := ⟨_, rfl⟩; have hyl : y < 4294967296 := by rw [hy]; exact dg_get (dg_dig v) k
   have hstep := add_step (ds := ds) (k := k) (cy := cy) (a := u) (b := y) HL.out HV.out; rw [huq, ← val_take_next, hy, ← val_take_next, ← hy, ← huq] at hstep; have hput := HK.out.set_ (j + k) (.int .u32 (((u + y + cy) % 4294967296 : Nat) : Int)); rw [seg_set HP.out (by omega), over_next HL.out (by have := HU.out; omega)] at hput; have HS := Hd.mk (fun W => add32_calls u y cy hul hyl hcy W); obtain ⟨b2, hb2⟩ : ∃ b2 : Nat, b2 = (u + y + cy) / 4294967296 := ⟨_, rfl⟩; have hb1 : b2 ≤ 1 := by omega
   obtain ⟨dd, hdd2⟩ : ∃ dd : Nat, dd = (u + y + cy) % 4294967296 := ⟨_, rfl⟩; have hddl : dd < B := by rw [hdd2]; exact Nat.mod_lt _ (by decide)
   rw [← hb2, ← hdd2] at hstep HS; rw [← hdd2] at hput; have HST := Hd.mk hstep; have HPT := Hd.mk hput; by_cases hkq : k < ln v
   ·obtain ⟨a2, rfl, hcell2⟩ := (HY.out.only HG.out HA.out).at_ hkq; rw [← hy] at hcell2; clear hstep hput hb2 hdd2 huq hy hkl2; go_wp2_with (first | (go_at_call 116; refine (HS.out _).mono ?_; rintro e w' ⟨rfl, rfl⟩))
    go_roundw
    case rel => exact ⟨k + 1, b2, ds ++ [dd], by omega, by go_num, rfl, hb1, by rw [List.length_append, HL.out]; rfl, dg_append HDD.out (dg_one hddl), HST.out, HPT.out, only_setCell HG.out rfl _⟩
    case measure => simp [intOf]; omega
   have hy0 : y = 0 := by rw [hy]; exact getD_zero_of_le (by unfold ln at hkq; omega)
   rw [hy0] at HS; clear hstep hput hb2 hdd2 huq hy hkl2 hy0; go_wp2_with (first | (go_at_call 116; refine (HS.out _).mono ?_; rintro e w' ⟨rfl, rfl⟩))
   go_roundw
   case rel => exact ⟨k + 1, b2, ds ++ [dd], by omega, by go_num, rfl, hb1, by rw [List.length_append, HL.out]; rfl, dg_append HDD.out (dg_one hddl), HST.out, HPT.out, only_setCell HG.out rfl _⟩
   case measure => simp [intOf]; omega
  have hke : k = L := by omega
  subst hke; have hv := HV.out; rw [List.take_of_length_le (show us.length ≤ k by have := HU.out; omega), List.take_of_length_le (show (dig v).length ≤ k by rw [dig_length]; omega), val_dig] at hv; have hdlt := val_lt HDD.out; rw [HL.out] at hdlt
  have hblk : Blk wr gB 123 (pre ++ (cells ds ++ post)) := by
   have := HK.out; rwa [List.drop_eq_nil_of_le (by have := HU.out; omega), List.append_nil] at this
  have HKK := Hd.mk hblk; have HVV : Hd (val ds = (val us + v) % B ^ k) := ⟨by rw [← hv, Nat.add_mul_mod_self_left, Nat.mod_eq_of_lt hdlt]⟩; clear hv hblk hdlt; go_wp2_with fail
  refine bodyPost_ret (v := .tuple #[]) (by simp [results, Tryz.results122, go_sem]) rfl ?_; exact ⟨rfl, ds, HL.out, HDD.out, HVV.out, HKK.out, HG.out⟩
def inInt (z : Int) : Prop := -9223372036854775808 ≤ z ∧ z ≤ 9223372036854775807
instance (z : Int) : Decidable (inInt z) := by unfold inInt; exact inferInstance
theorem or_words (a x : Nat) (ha : a < 4294967296) (hx : x < 4294967296) : bits .or .u64 (a : Int) ((x : Int) * 4294967296) = ((a + 4294967296 * x : Nat) : Int) := by
 have e : ((x : Int) * 4294967296) = ((4294967296 * x : Nat) : Int) := by omega
 rw [e, u64_or_nat _ _ (by omega) (by omega)]; have := Nat.two_pow_add_eq_or_of_lt (i := 32) ha x; rw [Nat.add_comm, Nat.or_comm]; congr 1
 exact this.symm
theorem shr_digit (n k s : Nat) (hs : s < 32) : ((dig n).getD k 0 + (dig n).getD (k + 1) 0 * 4294967296) / 2 ^ s % 4294967296 = n / 2 ^ s / B ^ k % 4294967296 := by
 obtain ⟨h1, h2⟩ := pow_r hs; rw [dig_getD, dig_getD, Nat.div_div_eq_div_mul n, Nat.mul_comm (2 ^ s) (B ^ k), ← Nat.div_div_eq_div_mul n, Nat.pow_succ, ← Nat.div_div_eq_div_mul n]; generalize n / B ^ k = m; show (m % 4294967296 + m / 4294967296 % 4294967296 * 4294967296) / 2 ^ s % 4294967296 = m / 2 ^ s % 4294967296
 have e : m = (m % 4294967296 + m / 4294967296 % 4294967296 * 4294967296) + 2 ^ s * (2 ^ (32 - s) * 4294967296 * (m / 4294967296 / 4294967296)) := by
  rw [← Nat.mul_assoc, ← Nat.mul_assoc, h1]; omega
 conv => rhs; rw [e]
 rw [Nat.add_mul_div_left _ _ h2, Nat.mul_assoc, Nat.mul_left_comm, Nat.add_mul_mod_self_left]
set_option maxHeartbeats 1000000 in
set_option maxRecDepth 100000 in
theorem shr_calls (A1 : Option Addr) (c1 n s : Nat) (w : World) (h1 : NN w A1 c1 n) (l1 : ln n ≤ 536870912) (hs : s < 32) :
  Calls Tryz.prog 123 #[.slice A1 (ln n) c1, .int .i64 (s : Int)] w (RetN (n / 2 ^ s) w) := by
 have HX := Hd.mk h1; have hlc := h1.2.1; have hcm := h1.2.2; clear h1; have hsq : (s : Int) / 32 = 0 := by omega
 have hsr : (s : Int) % 32 = (s : Int) := by omega
 by_cases h0 : n = 0
 ·subst h0; rw [ln_zero, Nat.zero_div]; go_enter Tryz.func123, Tryz.ntmps123
  go_wp2
  go_ret
  exact ⟨none, 0, by rw [ln_zero]; rfl, NN.nil _ _ _ (by omega), Below.refl _ _⟩
 have hlp : 0 < ln n := ln_pos.2 (by omega); have hl0 : ¬ ln n = 0 := by omega
 have hc0 : ¬ c1 = 0 := by omega
 obtain ⟨ad, rfl, _⟩ := HX.out.at_ hlp; have hmk := fun W => make_words 98 Tryz.underlying98 (ln n : Int) (ln n) (by omega) (by omega) W
 clear h0; go_enter Tryz.func123, Tryz.ntmps123
 go_wp2
 clear hmk; go_loopw [22] (fun s22 wr => ∃ (k : Nat) (ds : List Nat), k ≤ ln n ∧ s22 = .int .i64 k ∧ ds.length = k ∧ Dg ds ∧ val ds = n / 2 ^ s % B ^ k ∧ Blk wr w.heap.size 123 (cells (ds ++ List.replicate (ln n - k) 0)) ∧ Below w.heap.size w wr) (fun s _ => ln n - (intOf s).toNat)
 case atStart => exact ⟨0, [], Nat.zero_le _, rfl, rfl, (fun x hx => by cases hx), by simp [val, Nat.mod_one], heap_alloc_new w _, below_alloc (Below.refl _ _) _⟩
 case round =>
  obtain ⟨k, ds, hk, rfl, hdl, hdd, hval, hblk, hbel⟩ := hrel; have HV := Hd.mk hval; have HK := Hd.mk hblk; have HL := Hd.mk hdl; have HB := Hd.mk hbel; have HDD := Hd.mk hdd; clear hval hblk hdl hbel hdd; by_cases hkl : k < ln n
  ·obtain ⟨a1, ha1, hcell1⟩ := (HX.out.to HB.out).at_ hkl; cases ha1
   obtain ⟨x, hx⟩ : ∃ x, x = (dig n).getD k 0 := ⟨_, rfl⟩; have hx1 : x < 4294967296 := by rw [hx]; exact dg_get (dg_dig _) k
   rw [← hx] at hcell1; obtain ⟨y, hy⟩ : ∃ y, y = (dig n).getD (k + 1) 0 := ⟨_, rfl⟩; have hy1 : y < 4294967296 := by rw [hy]; exact dg_get (dg_dig _) _
   have hck := HK.out.at_ (i := k) (by rw [List.length_append, HL.out, List.length_replicate]; omega); have hfz := HK.out.frozen k; have hsd := shr_digit n k s hs; rw [← hx, ← hy] at hsd; obtain ⟨t, ht⟩ : ∃ t, t = x + y * 4294967296 := ⟨_, rfl⟩; rw [← ht] at hsd; obtain ⟨t2, ht2⟩ : ∃ t2, t2 = t / 2 ^ s := ⟨_, rfl⟩; have ht2l : t2 ≤ t := by rw [ht2]; exact Nat.div_le_self _ _
   rw [← ht2] at hsd; obtain ⟨d, hd⟩ : ∃ d, d = t2 % 4294967296 := ⟨_, rfl⟩; have hdl : d < B := by rw [hd]; exact Nat.mod_lt _ (by decide)
   have hput := HK.out.put k d; rw [show k = ds.length from HL.out.symm, set_next ds _ _ (by have := HL.out; omega), HL.out] at hput
   have hnew : val (ds ++ [d]) = n / 2 ^ s % B ^ (k + 1) := by
    rw [val_snoc, HL.out, HV.out, Nat.mod_pow_succ, hd, hsd]; rfl
   have e0 : bits .or .u64 (x : Int) ((y : Int) * 4294967296) = (t : Int) := by
    rw [or_words x y hx1 hy1, ht, Nat.mul_comm]
   have e1 : (t : Int) / 2 ^ s = (t2 : Int) := by
    rw [ht2]; simp
   have e2 : (t2 : Int) % 4294967296 = (d : Int) := by omega
   have hyt : (y : Int) * 4294967296 ≤ 18446744073709551615 := by omega
   have htl : t ≤ 18446744073709551615 := by omega
   have HN := Hd.mk hnew; have HP := Hd.mk hput; have HXT := Hd.mk (show k + 1 ≥ ln n → t = x by intro h; rw [ht, hy, getD_zero_of_le (by rw [dig_length]; exact h)]; omega); by_cases hk1 : k + 1 < ln n
   ·obtain ⟨a2, ha2, hcell2⟩ := (HX.out.to HB.out).at_ hk1; cases ha2
    rw [← hy] at hcell2; simp only [Addr.add_succ'] at hcell2; have hk1' : (k : Int) + 1 < (ln n : Int) := by omega
    clear hx hy ht ht2 hd hsd hput hnew; go_wp2_with fail
    go_roundw
    case rel => exact ⟨k + 1, ds ++ [d], by omega, by go_num, by rw [List.length_append, HL.out]; rfl, dg_append HDD.out (dg_one hdl), HN.out, by rw [Nat.sub_add_eq]; exact HP.out, below_set HB.out (Nat.le_refl _) _⟩
    case measure => simp [intOf]; omega
   have htx := HXT.out (by omega); have hk1' : ¬ (k : Int) + 1 < (ln n : Int) := by omega
   have e1' : (x : Int) / 2 ^ s = (t2 : Int) := by rw [← htx]; exact e1
   clear hx hy ht ht2 hd hsd hput hnew e0 e1 htx HXT; go_wp2_with fail
   go_roundw
   case rel => exact ⟨k + 1, ds ++ [d], by omega, by go_num, by rw [List.length_append, HL.out]; rfl, dg_append HDD.out (dg_one hdl), HN.out, by rw [Nat.sub_add_eq]; exact HP.out, below_set HB.out (Nat.le_refl _) _⟩
   case measure => simp [intOf]; omega
  have hke : k = ln n := by omega
  subst hke
  have hv2 : val ds = n / 2 ^ s := by
   rw [HV.out, Nat.mod_eq_of_lt (Nat.lt_of_le_of_lt (Nat.div_le_self _ _) (lt_pow_ln n))]
  have hblk : Blk wr w.heap.size 123 (cells ds) := by
   have := HK.out; rwa [Nat.sub_self, List.replicate_zero, List.append_nil] at this
  have hc := norm_calls (some ⟨w.heap.size, 0, none⟩) (ln n) ds _ hblk.reads HDD.out (by have := HL.out; omega) (by omega); have hrn := hblk.reads.of_take HDD.out; rw [HL.out, hv2] at hc; rw [hv2] at hrn; have hfin : ln (n / 2 ^ s) ≤ ln n := ln_mono (Nat.div_le_self _ _); have HC := Hd.mk hc; have HRN := Hd.mk hrn; clear hv2 hc hrn hblk; go_wp2_with (first | (go_at_call 114; refine HC.out.mono ?_; rintro e w' ⟨rfl, rfl⟩))
  go_ret
  exact ⟨_, _, rfl, ⟨HRN.out, hfin, by omega⟩, HB.out⟩
theorem run_min2_int (k k' : IntKind) (x y : Int) : Builtin.min2 (.int k x) (.int k' y) = pure (.int k (if y < x then y else x)) := by simp only [Builtin.min2]
theorem run_min_two (ats : Array TypeId) (ty : TypeId) (a b : Value) : Builtin.min_ ats ty #[a, b] = (Builtin.min2 a b >>= fun s => pure s) := by simp only [Builtin.min_, List.foldlM_cons, List.foldlM_nil]
theorem _root_.Go.Proofs.YtddbmckbankmeaaGreat.Blk.readsP {w : World} {g : Nat} {t : TypeId} {us : List Nat} {post : List Value} (h : Blk w g t (cells us ++ post)) : RN w (some ⟨g, 0, none⟩) us := fun _ => ⟨_, rfl, fun j hj => by
 have := h.cell j; rw [List.getElem?_append_left (by rw [cells_length]; exact hj), cells_get us hj] at this; rw [← this]
 have e : (⟨g, 0, none⟩ : Addr).add j = ⟨g, j, none⟩ := by
  unfold Addr.add; split
  ·next h => rw [h]
  simp
 rw [e]⟩
theorem _root_.Go.Proofs.YtddbmckbankmeaaGreat.Blk.atP {w : World} {g : Nat} {t : TypeId} {us : List Nat} {post : List Value} (h : Blk w g t (cells us ++ post)) {i : Nat} (hi : i < us.length) : w.cell? ⟨g, i, none⟩ = some (.int .u32 ((us.getD i 0 : Nat) : Int)) := by
 rw [h.cell, List.getElem?_append_left (by rw [cells_length]; exact hi), cells_get us hi]
theorem own_block {w : World} {base : Nat} {e : TypeId} {v : Value} {n : Nat} {xs : List Value} (h : w.ownsRow base e 1 v n xs) (hn : 0 < n) : ∃ g cap post, v = .slice (some ⟨g, 0, none⟩) n cap ∧ base ≤ g ∧ n ≤ cap ∧ cap ≤ 9223372036854775807 ∧ Blk w g e (xs ++ post) ∧ g < w.heap.size := by
 rcases h.2 with ⟨rfl, h0⟩ | ⟨g, cap, cur, rfl, hg, hh, hnc, hcm, hcs, htk⟩
 ·omega
 have hb : Blk w g e (xs ++ cur.toList.drop n) := by
  have e1 : xs ++ cur.toList.drop n = cur.toList := by
   rw [← htk, Nat.mul_one, List.take_append_drop]
  unfold Blk; rw [e1]; simpa using hh
 exact ⟨g, cap, cur.toList.drop n, rfl, hg, hnc, by unfold maxLen at hcm; omega, hb, hb.lt⟩
theorem long_begin {a b y s : Nat} (hy : y = (dig b).getD (ln b - 1) 0) (hb : b ≠ 0) (hs : s = 32 - nbits y) (hab : ln b ≤ ln a) :
  y < 4294967296 ∧ 1 ≤ nbits y ∧ nbits y ≤ 32 ∧ b * 2 ^ s < B ^ ln b ∧ ln (b * 2 ^ s) = ln b ∧ a * 2 ^ s < (b * 2 ^ s) * B ^ (ln a - ln b + 1) ∧ ln (a * 2 ^ s) ≤ ln a + 1 ∧ ln a ≤ ln (a * 2 ^ s) ∧ 0 < b * 2 ^ s := by
 have hlp : 0 < ln b := ln_pos.2 (by omega); have hyl : y < 4294967296 := by rw [hy]; exact dg_get (dg_dig b) _
 have hy0 : y ≠ 0 := by rw [hy]; exact dig_last b _ (by rw [dig_length]; omega)
 have h1 : nbits y ≤ 32 := nbits_le.2 hyl; have h0 : 1 ≤ nbits y := by unfold nbits; rw [if_neg hy0]; omega
 have hhi := nbits_hi y; have hlo := nbits_lo hy0
 have e32 : 2 ^ nbits y * 2 ^ s = 4294967296 := by
  rw [← Nat.pow_add, hs, show nbits y + (32 - nbits y) = 32 from by omega]
 have e31 : 2 ^ (nbits y - 1) * 2 ^ s = 2147483648 := by
  rw [← Nat.pow_add, hs, show nbits y - 1 + (32 - nbits y) = 31 from by omega]
 have hsp : 0 < 2 ^ s := Nat.pow_pos (by decide)
 have hs31 : 2 ^ s ≤ 2147483648 := by
  have : 2 ^ s ≤ 2 ^ 31 := Nat.pow_le_pow_right (by decide) (by omega); simpa using this
 have hbv : b = val ((dig b).take (ln b - 1)) + B ^ (ln b - 1) * y := by
  have h2 := val_take_next (dig b) (ln b - 1); rw [show ln b - 1 + 1 = ln b from by omega, List.take_of_length_le (show (dig b).length ≤ ln b from Nat.le_refl _), val_dig, ← hy] at h2; exact h2
 have hbt := val_lt (dg_take (dg_dig b) (ln b - 1)); rw [List.length_take, Nat.min_eq_left (by rw [dig_length]; omega)] at hbt
 have eB : B ^ ln b = B ^ (ln b - 1) * 4294967296 := by
  rw [show (4294967296 : Nat) = B from rfl, ← Nat.pow_succ]; congr 1
  omega
 have hv1 : b * 2 ^ s < B ^ ln b := by
  have h2 : b < B ^ (ln b - 1) * (y + 1) := by rw [Nat.mul_add]; omega
  have h3 : b * 2 ^ s < B ^ (ln b - 1) * (y + 1) * 2 ^ s := Nat.mul_lt_mul_of_pos_right h2 hsp; have h4 : (y + 1) * 2 ^ s ≤ 4294967296 := by rw [← e32]; exact Nat.mul_le_mul_right _ hhi
  have h5 : B ^ (ln b - 1) * ((y + 1) * 2 ^ s) ≤ B ^ (ln b - 1) * 4294967296 := Nat.mul_le_mul_left _ h4; rw [Nat.mul_assoc] at h3; omega
 have hv2 : B ^ (ln b - 1) * 2147483648 ≤ b * 2 ^ s := by
  have h2 : B ^ (ln b - 1) * y ≤ b := by omega
  have h3 : B ^ (ln b - 1) * y * 2 ^ s ≤ b * 2 ^ s := Nat.mul_le_mul_right _ h2; have h4 : 2147483648 ≤ y * 2 ^ s := by rw [← e31]; exact Nat.mul_le_mul_right _ hlo
  have h5 : B ^ (ln b - 1) * 2147483648 ≤ B ^ (ln b - 1) * (y * 2 ^ s) := Nat.mul_le_mul_left _ h4; rw [Nat.mul_assoc] at h3; omega
 have hal := lt_pow_ln a; have hge : b ≤ b * 2 ^ s := Nat.le_mul_of_pos_right _ hsp; have hge2 : a ≤ a * 2 ^ s := Nat.le_mul_of_pos_right _ hsp; refine ⟨hyl, h0, h1, hv1, Nat.le_antisymm (ln_le hv1) (ln_mono hge), ?_, ?_, ln_mono hge2, by omega⟩
 ·have h2 : a * 2 ^ s < B ^ ln a * 2 ^ s := Nat.mul_lt_mul_of_pos_right hal hsp; have h3 : B ^ ln a * 2 ^ s ≤ B ^ ln a * 2147483648 := Nat.mul_le_mul_left _ hs31; have h4 : B ^ (ln b - 1) * 2147483648 * B ^ (ln a - ln b + 1) ≤ (b * 2 ^ s) * B ^ (ln a - ln b + 1) := Nat.mul_le_mul_right _ hv2
  have h5 : B ^ (ln b - 1) * 2147483648 * B ^ (ln a - ln b + 1) = B ^ ln a * 2147483648 := by
   rw [Nat.mul_right_comm, ← Nat.pow_add]; congr 2
   omega
  omega
 apply ln_le; rw [Nat.pow_succ]; have h2 : a * 2 ^ s < B ^ ln a * 2 ^ s := Nat.mul_lt_mul_of_pos_right hal hsp; have h3 : B ^ ln a * 2 ^ s ≤ B ^ ln a * B := Nat.mul_le_mul_left _ (by unfold B; omega); omega
theorem long_end {a b s Q R : Nat} (h : a * 2 ^ s = b * 2 ^ s * Q + R) (hR : R < b * 2 ^ s) : Q = a / b ∧ R / 2 ^ s = a % b := by
 have hsp : 0 < 2 ^ s := Nat.pow_pos (by decide)
 have hb : 0 < b := by
  rcases Nat.eq_zero_or_pos b with h0 | h0
  ·rw [h0] at hR; omega
  exact h0
 have e1 : a * 2 ^ s / (b * 2 ^ s) = a / b := Nat.mul_div_mul_right _ _ hsp; have e2 : a * 2 ^ s % (b * 2 ^ s) = a % b * 2 ^ s := Nat.mul_mod_mul_right _ _ _
 have h1 : a * 2 ^ s / (b * 2 ^ s) = Q := by
  rw [h, Nat.mul_add_div (by omega), Nat.div_eq_of_lt hR, Nat.add_zero]
 have h2 : a * 2 ^ s % (b * 2 ^ s) = R := by
  rw [h, Nat.mul_add_mod, Nat.mod_eq_of_lt hR]
 refine ⟨by rw [← h1, e1], ?_⟩; rw [← h2, e2, Nat.mul_div_cancel _ hsp]
structure Digit (us : List Nat) (v j n x2 x1 x0 v1 v2 top W : Nat) : Prop where
 x2l : x2 < 4294967296
 x1l : x1 < 4294967296
 x0l : x0 < 4294967296
 v1l : v1 < 4294967296
 v2l : v2 < 4294967296
 v1p : 0 < v1
 topl : top ≤ 18446744073709551615
 init : W / v ≤ min (top / v1) 4294967295
 step : ∀ g rest, g * v1 + rest = top → W / v ≤ g → rest * 4294967296 + x0 < g * v2 → 1 ≤ g ∧ W / v ≤ g - 1
 fix : ∀ g rest, g * v1 + rest = top → W / v ≤ g → g < 4294967296 → (4294967296 ≤ rest ∨ g * v2 ≤ rest * 4294967296 + x0) → (W < g * v → 1 ≤ g ∧ (g - 1) * v ≤ W ∧ W < (g - 1) * v + v) ∧ (¬ W < g * v → W < g * v + v)
theorem digit_of {us : List Nat} {N v j n la : Nat} {qs : List Nat} {x2 x1 x0 v1 v2 top : Nat} (hn : 2 ≤ n) (hl : us.length = la + 1) (hd : Dg us) (hjn : j + n ≤ la) (hv : v < B ^ n) (hvn : ln v = n) (hL : Long N v (j + 1) us qs) (h2 : x2 = us.getD (j + n) 0) (h1 : x1 = us.getD (j + n - 1) 0) (h0 : x0 = us.getD (j + n - 2) 0) (hv1 : v1 = (dig v).getD (n - 1) 0) (hv2 : v2 = (dig v).getD (n - 2) 0) (ht : top = x2 * 4294967296 + x1) :
    Digit us v j n x2 x1 x0 v1 v2 top (val ((us.drop j).take (n + 1))) := by
  obtain ⟨m, rfl⟩ : ∃ m, n = m + 2 := ⟨n - 2, by omega⟩; obtain ⟨e1, e2, e3⟩ := long_high hl hd hv hL.2 (by omega); have hsl : ((us.drop j).take (m + 2 + 1)).length = m + 3 := by rw [List.length_take, List.length_drop]; omega
  obtain ⟨s1, s2⟩ := top_three (xs := (us.drop j).take (m + 2 + 1)) (m := m) hsl (dg_take (dg_drop hd j) _)
  have hg : ∀ i, i < m + 3 → ((us.drop j).take (m + 2 + 1)).getD i 0 = us.getD (j + i) 0 := by
    intro i hi; rw [List.getD_eq_getElem?_getD, List.getElem?_take, if_pos (by omega), List.getElem?_drop, List.getD_eq_getElem?_getD]
  rw [hg (m + 2) (by omega), hg (m + 1) (by omega), hg m (by omega)] at s1; rw [show j + (m + 2) - 1 = j + (m + 1) from by omega] at h1; rw [show j + (m + 2) - 2 = j + m from by omega] at h0; rw [show m + 2 - 1 = m + 1 from by omega] at hv1; rw [show m + 2 - 2 = m from by omega] at hv2; have hdl : (dig v).length = m + 2 := hvn; obtain ⟨t1, t2⟩ := top_two (xs := dig v) (m := m) hdl (dg_dig v); rw [val_dig, ← hv1, ← hv2] at t1; rw [← h2, ← h1, ← h0] at s1; have hx2 : x2 < B := by rw [h2]; exact dg_get hd _
  have hx1 : x1 < B := by rw [h1]; exact dg_get hd _
  have hx0 : x0 < B := by rw [h0]; exact dg_get hd _
  have hv1l : v1 < B := by rw [hv1]; exact dg_get (dg_dig v) _
  have hv2l : v2 < B := by rw [hv2]; exact dg_get (dg_dig v) _
  have hv1p : 0 < v1 := by
    have := dig_last v (m + 1) (by rw [hdl]); rw [hv1]; omega
  have ht' : x2 * B + x1 = top := ht.symm; rw [ht'] at s1
  exact { x2l := hx2, x1l := hx1, x0l := hx0, v1l := hv1l, v2l := hv2l, v1p := hv1p,
          topl := by unfold B at hx2 hx1; omega,
          init := kn_init t1 s1 s2 hx0 hv1p e3,
          step := fun g rest a b c => kn_step t1 s1 s2 a b c,
          fix := fun g rest a b c d => kn_fix t1 s1 t2 hv1p c b (kn_exit a hv2l c d) }
theorem seg_split {us : List Nat} {j n : Nat} {post : List Value} : cells us ++ post = cells (us.take j) ++ (cells ((us.drop j).take (n + 1)) ++ (cells ((us.drop j).drop (n + 1)) ++ post)) := by
 rw [← List.append_assoc (cells ((us.drop j).take (n + 1))), ← cells_append, List.take_append_drop, ← List.append_assoc, ← cells_append, List.take_append_drop]
theorem seg_join {us ds : List Nat} {j n : Nat} {post : List Value} : cells (us.take j) ++ (cells ds ++ (cells ((us.drop j).drop (n + 1)) ++ post)) = cells (us.take j ++ (ds ++ (us.drop j).drop (n + 1))) ++ post := by
 rw [cells_append, cells_append, List.append_assoc, List.append_assoc]
theorem dg_join {us ds : List Nat} {j n : Nat} (h : Dg us) (hd : Dg ds) : Dg (us.take j ++ (ds ++ (us.drop j).drop (n + 1))) := dg_append (dg_take h j) (dg_append hd (dg_drop (dg_drop h j) _))
theorem len_join {us ds : List Nat} {j n la : Nat} (h : us.length = la + 1) (hd : ds.length = n + 1) (hj : j + n ≤ la) : (us.take j ++ (ds ++ (us.drop j).drop (n + 1))).length = la + 1 := by
 rw [List.length_append, List.length_append, List.length_take, List.length_drop, List.length_drop]; omega
theorem fit_yes {W q v L d : Nat} (h : ¬ W < q * v) (e : d + q * v = W + (if W < q * v then B ^ L else 0)) (hb : W < q * v + v) : W = q * v + d ∧ d < v := by
 rw [if_neg h] at e; omega
theorem fit_no {W q v L d d2 : Nat} (h : W < q * v) (e : d + q * v = W + (if W < q * v then B ^ L else 0)) (h1 : 1 ≤ q) (h2 : (q - 1) * v ≤ W) (h3 : W < (q - 1) * v + v) (hv : v < B ^ L) (e2 : d2 = (d + v) % B ^ L) : W = (q - 1) * v + d2 ∧ d2 < v := by
 rw [if_pos h] at e
 have e3 : (q - 1) * v + v = q * v := by
  rw [← Nat.succ_mul]; congr 1
  omega
 have e4 : d + v = (W - (q - 1) * v) + B ^ L := by omega
 rw [e4, Nat.add_mod_right, Nat.mod_eq_of_lt (by omega)] at e2; omega
end Go.Proofs.YtddbmckbankmeaaGreat.Ex
set_option linter.unusedVariables false
namespace Go.Proofs.YtddbmckbankmeaaGreat.Ex
open Go.RowKit
attribute [local go_sem] run_min2_int run_min_two
set_option maxHeartbeats 4000000 in
set_option maxRecDepth 100000 in
theorem div_long (A1 : Option Addr) (c1 a : Nat) (A2 : Option Addr) (c2 b : Nat) (w : World) (h1 : NN w A1 c1 a) (h2 : NN w A2 c2 b) (hle : b ≤ a) (hlb : 2 ≤ ln b) (l1 : ln a ≤ 268435456) :
  Calls Tryz.prog 97 #[.slice A1 (ln a) c1, .slice A2 (ln b) c2] w (RetNN (a / b) (a % b) w) := by
 have hb0 : b ≠ 0 := fun h => by rw [h, ln_zero] at hlb; omega
 have hlab := ln_mono hle; obtain ⟨y, hy⟩ : ∃ y, y = (dig b).getD (ln b - 1) 0 := ⟨_, rfl⟩; obtain ⟨s, hs⟩ : ∃ s, s = 32 - nbits y := ⟨_, rfl⟩; obtain ⟨hyl, hn1, hn2, hvn, hlv, hNv, hN1, hN2, hv0⟩ := long_begin (a := a) hy hb0 hs hlab; have hs32 : s < 32 := by omega
 have hlz : (32 : Int) - (Lib.bitLen (y : Int).toNat : Int) = (s : Int) := by rw [Int.toNat_natCast, bitLen_nbits hyl]; omega
 have HLZ := Hd.mk (fun W => Tryz.bits_LeadingZeros32 (y : Int) W (by omega) (by omega)); rw [hlz] at HLZ; obtain ⟨v, hv⟩ : ∃ v, v = b * 2 ^ s := ⟨_, rfl⟩; obtain ⟨N, hN⟩ : ∃ N, N = a * 2 ^ s := ⟨_, rfl⟩; have HSB := Hd.mk (fun W (hW : Below w.heap.size w W) => shl_calls A2 c2 b s W (h2.to hW) (by omega) (by omega)); have HSA := Hd.mk (fun W (hW : Below w.heap.size w W) => shl_calls A1 c1 a s W (h1.to hW) (by omega) (by omega)); have HCMP := Hd.mk (fun W (hW : Below w.heap.size w W) => cmp_calls A1 c1 a A2 c2 b W (h1.to hW) (h2.to hW)); have HEND := Hd.mk (fun Q R (h : N = v * Q + R) (hR : R < v) => long_end (a := a) (b := b) (s := s) (Q := Q) (R := R) (by rw [← hN, ← hv]; exact h) (by rw [← hv]; exact hR)); rw [← hv] at HSB hvn hlv hv0; rw [← hN] at HSA hN1 hN2; rw [← hv, ← hN] at hNv; obtain ⟨ad2, rfl, hcy⟩ := h2.at_ (k := ln b - 1) (by omega); rw [← hy] at hcy; obtain ⟨la, hla⟩ : ∃ la, la = ln a := ⟨_, rfl⟩; obtain ⟨lb, hlbq⟩ : ∃ lb, lb = ln b := ⟨_, rfl⟩; rw [← hla] at HSA HCMP hlab hNv hN1 hN2 l1 ⊢; rw [← hlbq] at HSB HCMP hlab hNv hlb hvn hlv hcy ⊢; have HLV := Hd.mk hlv; have HVN := Hd.mk hvn; have HNV := Hd.mk hNv
 have hcvp : 0 ≤ cmpv a b := by
  unfold cmpv; rw [if_neg (show ¬ a < b by omega)]; split <;> omega
 obtain ⟨cv, hcv⟩ : ∃ cv, cv = cmpv a b := ⟨_, rfl⟩; have hcv0 : 0 ≤ cv := by rw [hcv]; exact hcvp
 rw [← hcv] at HCMP; have hlb1 : ((lb : Int) == 1) = false := by rw [beq_eq_false_iff_ne]; omega
 obtain ⟨d1, hd1⟩ : ∃ d, d = a / b := ⟨_, rfl⟩; obtain ⟨d2, hd2⟩ : ∃ d, d = a % b := ⟨_, rfl⟩; rw [← hd1, ← hd2] at HEND ⊢; have hq1le : ln d1 ≤ la := by rw [hd1, hla]; exact ln_mono (Nat.div_le_self _ _)
 clear hcvp hcv hla hlbq hv hN hs hy hlz hb0 hle h1 h2 hlv hNv hvn hd1 hd2; obtain ⟨L1, hL1⟩ : ∃ P, P = lb - 1 := ⟨_, rfl⟩; have i4 : (lb : Int) - 1 = (L1 : Int) := by omega
 have HL1 := Hd.mk hL1; rw [← hL1] at hcy; clear hL1; obtain ⟨lN, hlN⟩ : ∃ lN, lN = ln N := ⟨_, rfl⟩; rw [← hlN] at hN1 hN2; have HLN := Hd.mk hlN; clear hlN; go_enter Tryz.func97, Tryz.ntmps97
 go_wp2_with fail
 refine (HCMP.out _ (Below.refl _ _)).mono ?_; rintro e w1 ⟨rfl, q0, rfl⟩; go_wp2_with fail
 refine (HLZ.out _).mono ?_; rintro e w1 ⟨rfl, rfl⟩; go_wp2_with fail
 refine (HSB.out _ (by repeat (first | exact HB.out | exact Below.refl _ _ | refine below_alloc ?_ _ | refine below_drewN ?_ _ | refine below_drew ?_ | refine below_set ?_ (by first | exact Nat.le_refl _ | omega | (simp; done) | (simp; omega)) _))).mono ?_; rintro e w1 ⟨vv, rfl, hov, hb1⟩; have HB1 : Hd (Below w.heap.size w w1) := ⟨bel_then (by repeat (first | exact HB.out | exact Below.refl _ _ | refine below_alloc ?_ _ | refine below_drewN ?_ _ | refine below_drew ?_ | refine below_set ?_ (by first | exact Nat.le_refl _ | omega | (simp; done) | (simp; omega)) _)) hb1⟩; rw [HLV.out] at hov; have hovl : w1.ownsRow w.heap.size 123 1 vv (dig v).length (cells (dig v)) := by rw [dig_length, HLV.out]; exact hov
 obtain ⟨Av, cvv, hvv, hrv, hcv1, hcv2⟩ := own_slice hovl
 have hbv : ∀ g, Av = some g → g.block < w1.heap.size := by
  intro g hg; obtain ⟨_, h, hc⟩ := hrv (by rw [dig_length, HLV.out]; omega); rw [hg] at h; cases h
  have := World.block_lt_of_cell? _ _ (hc 0 (by rw [dig_length, HLV.out]; omega)); rwa [block_add] at this
 have hvv2 : vv = .slice Av lb cvv := by rw [hvv, dig_length, HLV.out]
 subst hvv2; have HNV1 : Hd (NN w1 Av cvv v) := ⟨⟨hrv, by rw [← dig_length]; exact hcv1, hcv2⟩⟩; have HBV := Hd.mk hbv; clear hov hb1 hovl hvv hrv hbv; go_wp2_with fail
 refine (HSA.out _ HB1.out).mono ?_; rintro e w2 ⟨uu, rfl, hou, hb2⟩; have HO := Hd.mk hou; have HB2 := Hd.mk hb2; clear hou hb2; obtain ⟨i0, hi, hz0, hz1, hz2⟩ := info_parts Tryz.info_word; have HR0 := Hd.mk (Blk.reads (ds := [0, 0]) (heap_alloc_new w2 (.cells (cells [0, 0]).toArray 123))); go_wp2_with (first | (at_builtin; refine wpList_append_any _ rfl (.tmp 42) (.tmp 43) 98 rfl w1.heap.size 123 i0 (.int .u32 0) 1 4 Tryz.underlying98 hi hz0 hz1 hz2 rfl (by decide) uu lN (cells (dig N)) rfl ((by rw [HLN.out]; exact HO.out : w2.ownsRow w1.heap.size 123 1 uu lN (cells (dig N))).alloc _) _ (some ⟨w2.heap.size, 0, none⟩) 2 2 (cells [0, 0]) rfl HR0.out.reads (cells_one _) (by unfold maxLen; omega) (by omega) (by have := HB2.out.size; simp; omega) ?_; intro v1 w3 hown1 hg1 hat1; obtain ⟨gU, cu, post0, rfl, hgU, hcu1, hcu2, hblk0, hgUl⟩ := own_block hown1 (by omega); have HU0 := Hd.mk hblk0; have HG1 := Hd.mk hg1; have hcu3 : (la : Int) + 1 ≤ (cu : Int) := (by omega); have HB3 : Hd (Below w1.heap.size w1 w3) := ⟨(below_alloc HB2.out _).grown HG1.out (by have := HB2.out.size; simp; omega) (own_ge HO.out)⟩; have HMK := Hd.mk (fun W => make_words 98 Tryz.underlying98 ((la : Int) - (lb : Int) + 1) (la - lb + 1) (by omega) (by omega) W); have hmk := HMK.out; clear hown1 hg1 hat1 hblk0))
 clear hmk; have HFAR : Hd (Far Av gU) := ⟨fun ad h => by have := HBV.out ad h; omega⟩; have HFAR2 : Hd (Far Av w3.heap.size) := ⟨fun ad h => by have := HBV.out ad h; omega⟩; have HNV3 := Hd.mk (HNV1.out.to HB3.out)
 -- the row of the dividend
 obtain ⟨us0, hus0⟩ : ∃ us0, us0 = (dig N ++ [0, 0]).take (la + 1) := ⟨_, rfl⟩; obtain ⟨post, hpost⟩ : ∃ p, p = cells ((dig N ++ [0, 0]).drop (la + 1)) ++ post0 := ⟨_, rfl⟩; have hlen0 : (dig N ++ [0, 0]).length = lN + 2 := by rw [List.length_append, dig_length, ← HLN.out]; rfl
 have hul : us0.length = la + 1 := by rw [hus0, List.length_take, hlen0]; omega
 have hdg0 : Dg (dig N ++ [0, 0]) := dg_append (dg_dig N) (by intro x hx; simp at hx; subst hx; exact B_pos); have hud : Dg us0 := by rw [hus0]; exact dg_take hdg0 _
 have huv : val us0 = N := by
  rw [hus0, val_take_mod hdg0, val_append, val_dig, show val [0, 0] = 0 from rfl, Nat.mul_zero, Nat.add_zero]; apply Nat.mod_eq_of_lt; exact Nat.lt_of_lt_of_le (lt_pow_ln N) (Nat.pow_le_pow_right B_pos (by rw [← HLN.out]; exact hN1))
 have hU3 : Blk w3 gU 123 (cells us0 ++ post) := by
  have := HU0.out; rw [← cells_append, ← List.take_append_drop (la + 1) (dig N ++ [0, 0]), cells_append, List.append_assoc, ← hus0, ← hpost] at this; exact this
 have HU := Hd.mk hU3; have HUL := Hd.mk hul; have HUD := Hd.mk hud; have HUV := Hd.mk huv; have HL0 := Hd.mk (long_start (qs := List.replicate (la - lb + 1) 0) huv HNV.out (by rw [List.length_replicate]; exact Nat.le_refl _)); have hgUw : w.heap.size ≤ gU := Nat.le_trans HB1.out.size hgU; have HBW : Hd (Below w.heap.size w w3) := ⟨below_then HB1.out HB1.out.size HB3.out⟩; clear hus0 hpost hlen0 hul hdg0 hud huv hU3 HU0 HG1 HMK HNV1 HBV HO HB2 HR0 HB3 HNV hcy; have hne : gU ≠ w3.heap.size := by omega
 go_loopw [11] (fun s11 wr => ∃ (k : Nat) (us qs : List Nat), k ≤ la - lb + 1 ∧ s11 = .int .i64 ((k : Int) - 1) ∧ us.length = la + 1 ∧ Dg us ∧ qs.length = la - lb + 1 ∧ Dg qs ∧ Long N v k us qs ∧ Blk wr gU 123 (cells us ++ post) ∧ Blk wr w3.heap.size 123 (cells qs) ∧ NN wr Av cvv v ∧ Below w.heap.size w wr) (fun s _ => (intOf s + 1).toNat)
 case atStart => exact ⟨la - lb + 1, us0, List.replicate (la - lb + 1) 0, Nat.le_refl _, by congr 1; omega, HUL.out, HUD.out, by simp, dg_zeros _, HL0.out, HU.out.alloc _, heap_alloc_new w3 _, HNV3.out.to (below_alloc (Below.refl _ _) _), below_alloc HBW.out _⟩
 case round =>
  obtain ⟨k, us, qs, hk, rfl, hul, hud, hql, hqd, hlong, hU, hQ, hNv, hbel⟩ := hrel; have HUL := Hd.mk hul; have HUD := Hd.mk hud; have HQL := Hd.mk hql; have HQD := Hd.mk hqd; have HLG := Hd.mk hlong; have HU := Hd.mk hU; have HQ := Hd.mk hQ; have HNVr := Hd.mk hNv; have HB := Hd.mk hbel; clear hul hud hql hqd hlong hU hQ hNv hbel; rcases k with _ | j
  ·have hend : val qs = d1 ∧ val us / 2 ^ s = d2 := by
    obtain ⟨h1, h2⟩ := HLG.out; rw [List.drop_zero, Nat.pow_zero, Nat.one_mul] at h1; rw [Nat.pow_zero, Nat.mul_one] at h2; exact HEND.out _ _ h1 h2
   have hc1 := norm_calls (some ⟨w3.heap.size, 0, none⟩) (la - lb + 1) qs wr HQ.out.reads HQD.out (by have := HQL.out; omega) (by omega); rw [HQL.out, hend.1] at hc1; have hc2 := norm_calls (some ⟨gU, 0, none⟩) cu us wr HU.out.readsP HUD.out (by have := HUL.out; omega) hcu2; rw [HUL.out] at hc2; have hr1 := HQ.out.reads.of_take HQD.out; rw [hend.1] at hr1
   have hd1l : ln d1 ≤ la - lb + 1 := by
    rw [← hend.1]; have := val_lt HQD.out; rw [HQL.out] at this; exact ln_le this
   have hul : ln (val us) ≤ la + 1 := by
    have := val_lt HUD.out; rw [HUL.out] at this; exact ln_le this
   have HN1 : Hd (NN wr (some ⟨w3.heap.size, 0, none⟩) (la - lb + 1) d1) := ⟨⟨hr1, hd1l, by omega⟩⟩; have HN2 : Hd (NN wr (some ⟨gU, 0, none⟩) cu (val us)) := ⟨⟨HU.out.readsP.of_take HUD.out, by omega, hcu2⟩⟩; have HSH := Hd.mk (shr_calls (some ⟨gU, 0, none⟩) cu (val us) s wr HN2.out (by omega) hs32); rw [hend.2] at HSH; have HC1 := Hd.mk hc1; have HC2 := Hd.mk hc2; clear hc1 hc2 hr1 hend; go_wp2_with fail
   refine HC1.out.mono ?_; rintro e wr' ⟨rfl, rfl⟩; go_wp2_with fail
   refine HC2.out.mono ?_; rintro e wr' ⟨rfl, rfl⟩; go_wp2_with fail
   refine HSH.out.mono ?_; rintro e wz ⟨A9, c9, rfl, hn9, hb9⟩; have HN9 := Hd.mk hn9; have HB9 := Hd.mk hb9; clear hn9 hb9; go_wp2_with fail
   go_ret2
   exact ⟨_, _, A9, c9, rfl, HN1.out.to HB9.out, HN9.out, bel_then HB.out HB9.out⟩
  have hjn : j + lb ≤ la := by omega
  have e5 : ((j + 1 : Nat) : Int) - 1 = (j : Int) := by omega
  rw [e5]; clear e5; obtain ⟨wo, hwo⟩ : ∃ wo : World, wo = wr := ⟨_, rfl⟩; subst hwo; obtain ⟨P, hP⟩ : ∃ P, P = j + lb := ⟨_, rfl⟩; obtain ⟨P1, hP1⟩ : ∃ P, P = j + lb - 1 := ⟨_, rfl⟩; obtain ⟨P0, hP0⟩ : ∃ P, P = j + lb - 2 := ⟨_, rfl⟩; obtain ⟨L0, hL0⟩ : ∃ P, P = lb - 2 := ⟨_, rfl⟩; have i1 : (j : Int) + (lb : Int) = (P : Int) := by omega
  have i2 : (P : Int) - 1 = (P1 : Int) := by omega
  have i3 : (P : Int) - 2 = (P0 : Int) := by omega
  have i5 : (lb : Int) - 2 = (L0 : Int) := by omega
  have i6 : IntKind.i64.wrap (P : Int) = (P : Int) := IntWalk.i64_in _ (by omega); have i7 : IntKind.i64.wrap (P1 : Int) = (P1 : Int) := IntWalk.i64_in _ (by omega); have i8 : IntKind.i64.wrap (P0 : Int) = (P0 : Int) := IntWalk.i64_in _ (by omega); have i9 : IntKind.i64.wrap (L0 : Int) = (L0 : Int) := IntWalk.i64_in _ (by omega); have hPl : P < la + 1 := by omega
  have hP1l : P1 < la + 1 := by omega
  have hP0l : P0 < la + 1 := by omega
  have hL1l : L1 < lb := by have := HL1.out; omega
  have hL0l : L0 < lb := by omega
  obtain ⟨x2, hx2⟩ : ∃ x, x = us.getD (j + lb) 0 := ⟨_, rfl⟩; obtain ⟨x1, hx1⟩ : ∃ x, x = us.getD (j + lb - 1) 0 := ⟨_, rfl⟩; obtain ⟨x0, hx0⟩ : ∃ x, x = us.getD (j + lb - 2) 0 := ⟨_, rfl⟩; obtain ⟨v1, hv1⟩ : ∃ x, x = (dig v).getD (lb - 1) 0 := ⟨_, rfl⟩; obtain ⟨v2, hv2⟩ : ∃ x, x = (dig v).getD (lb - 2) 0 := ⟨_, rfl⟩; obtain ⟨top, htop⟩ : ∃ x, x = x2 * 4294967296 + x1 := ⟨_, rfl⟩; have HDG := Hd.mk (digit_of (by omega) HUL.out HUD.out hjn HVN.out HLV.out HLG.out hx2 hx1 hx0 hv1 hv2 htop); have cx2 := HU.out.atP (i := j + lb) (by have := HUL.out; omega); have cx1 := HU.out.atP (i := j + lb - 1) (by have := HUL.out; omega); have cx0 := HU.out.atP (i := j + lb - 2) (by have := HUL.out; omega); rw [← hx2, ← hP] at cx2; rw [← hx1, ← hP1] at cx1; rw [← hx0, ← hP0] at cx0; obtain ⟨adv, rfl, cv1⟩ := HNVr.out.at_ (k := lb - 1) (by have := HLV.out; omega); obtain ⟨adv2, hadv2, cv2⟩ := HNVr.out.at_ (k := lb - 2) (by have := HLV.out; omega); cases hadv2
  rw [← hv1, ← HL1.out] at cv1; rw [← hv2, ← hL0] at cv2; have hx2l := HDG.out.x2l; have hx1l := HDG.out.x1l; have hv1l := HDG.out.v1l; have hv1p := HDG.out.v1p; have htl := HDG.out.topl; have itop : bits .or .u64 ((x2 : Int) * 4294967296) (x1 : Int) = (top : Int) := by rw [or_high x2 x1 hx1l hx2l, htop]
  have itop2 : (x2 : Int) * 4294967296 ≤ 18446744073709551615 := by omega
  have itop3 : IntKind.u64.wrap ((x2 : Int) * 4294967296) = (x2 : Int) * 4294967296 := by rw [IntKind.wrap_u64]; omega
  have HPJ : Hd (P + 1 - j = lb + 1) := ⟨by omega⟩; clear hP hP1 hP0 hL0 hx2 hx1 hx0 hv1 hv2 htop; obtain ⟨W, hWq⟩ : ∃ W, W = val ((us.drop j).take (lb + 1)) := ⟨_, rfl⟩; rw [← hWq] at HDG; have HWQ := Hd.mk hWq; clear hWq; go_wp2_with fail
  go_quiet (fail)
  go_upto_region 14 with fail
  go_cut [13] (fun s wx => ∃ g : Nat, s = .int .u64 (g : Int) ∧ W / v ≤ g ∧ g * v1 ≤ top ∧ g < 4294967296 ∧ ∃ q, wx = wo.drewN q)
  case first => as_aux_lemma =>
   obtain ⟨tq, htq⟩ : ∃ t, t = top / v1 := ⟨_, rfl⟩; have e1 : (top : Int) / (v1 : Int) = (tq : Int) := by rw [htq]; exact (Int.natCast_ediv _ _).symm
   have hin := HDG.out.init; rw [← htq] at hin; have HIN := Hd.mk hin; have HM : Hd (tq * v1 ≤ top) := ⟨by rw [htq]; exact Nat.div_mul_le_self _ _⟩; have hv10 : ((v1 : Int) == 0) = false := by rw [beq_eq_false_iff_ne]; omega
   have htql : tq ≤ 18446744073709551615 := by rw [htq]; exact Nat.le_trans (Nat.div_le_self _ _) htl
   clear htq hin; by_cases hlt : 4294967295 < tq
   ·have hlt' : (4294967295 : Int) < (tq : Int) := by omega
    go_wp2_with fail
    go_meet
    refine ⟨4294967295, rfl, Nat.le_trans HIN.out (Nat.min_le_right _ _), Nat.le_trans (Nat.mul_le_mul_right _ (by omega)) HM.out, by omega, _, rfl⟩
   have hlt' : ¬ (4294967295 : Int) < (tq : Int) := by omega
   go_wp2_with fail
   go_meet
   exact ⟨tq, rfl, Nat.le_trans HIN.out (Nat.min_le_left _ _), HM.out, by omega, _, rfl⟩
  case rest => as_aux_lemma =>
   obtain ⟨g0, rfl, hg1, hg2, hg3, qd, rfl⟩ := hcut; obtain ⟨gv, hgv⟩ : ∃ t, t = g0 * v1 := ⟨_, rfl⟩; have e1 : (g0 : Int) * (v1 : Int) = (gv : Int) := by rw [hgv]; exact (Int.natCast_mul _ _).symm
   rw [← hgv] at hg2; obtain ⟨r0, hr0⟩ : ∃ t, t = top - gv := ⟨_, rfl⟩; have e2 : (top : Int) - (gv : Int) = (r0 : Int) := by omega
   have HS : Hd (g0 * v1 + r0 = top) := ⟨by rw [← hgv]; omega⟩; have HG1 := Hd.mk hg1; have hr0l : r0 ≤ 18446744073709551615 := by omega
   clear hgv hr0 hg1; go_wp2_with fail
   go_loopw [13, 14] (fun s13 s14 wx => ∃ (g rest : Nat), s13 = .int .u64 (g : Int) ∧ s14 = .int .u64 (rest : Int) ∧ g < 4294967296 ∧ g * v1 + rest = top ∧ W / v ≤ g ∧ ∃ q, wx = wo.drewN q) (fun _ s14 _ => (4294967296 - intOf s14).toNat)
   case atStart => exact ⟨g0, r0, rfl, rfl, hg3, HS.out, HG1.out, _, rfl⟩
   case round => as_aux_lemma =>
    obtain ⟨g, rest, rfl, rfl, hg3, hs, hg1, qe, rfl⟩ := hrel; have HSS := Hd.mk hs; have HGG := Hd.mk hg1; have hrl : rest ≤ 18446744073709551615 := by omega
    have hgv1 : g * v1 ≤ top := by omega
    have HGV := Hd.mk hgv1; clear hs hg1 hgv1 HS HG1; have hv2l := HDG.out.v2l; have hx0l := HDG.out.x0l; obtain ⟨gw, hgw⟩ : ∃ t, t = g * v2 := ⟨_, rfl⟩; have hgwl : gw ≤ 18446744065119617025 := by rw [hgw]; exact (mul_fits hg3 hv2l (by omega : 0 < 4294967296) (by omega : 0 < 4294967296)).1
    have e3 : (g : Int) * (v2 : Int) = (gw : Int) := by rw [hgw]; exact (Int.natCast_mul _ _).symm
    obtain ⟨cnd, hcnd⟩ : ∃ c, c = decide (rest < 4294967296 ∧ rest * 4294967296 + x0 < gw) := ⟨_, rfl⟩; have HCND := Hd.mk hcnd; have HGW := Hd.mk hgw; clear hcnd hgw; go_upto_region 16 with fail
    go_cut [124] (fun s wx => s = .bool cnd ∧ ∃ q, wx = wo.drewN q)
    case first => as_aux_lemma =>
     by_cases hr : rest < 4294967296
     ·have hr' : decide ((rest : Int) < 4294967296) = true := decide_eq_true (by omega); obtain ⟨rx, hrx⟩ : ∃ t, t = rest * 4294967296 + x0 := ⟨_, rfl⟩; have e4 : bits .or .u64 ((rest : Int) * 4294967296) (x0 : Int) = (rx : Int) := by rw [or_high rest x0 hx0l hr, hrx]
      have e5 : IntKind.u64.wrap ((rest : Int) * 4294967296) = (rest : Int) * 4294967296 := by rw [IntKind.wrap_u64]; omega
      have e6 : IntKind.u64.wrap (gw : Int) = (gw : Int) := by rw [IntKind.wrap_u64]; omega
      have hr2 : (rest : Int) * 4294967296 ≤ 18446744073709551615 := by omega
      by_cases hlt : rx < gw
      ·have HC : Hd (cnd = true) := ⟨by rw [HCND.out]; exact decide_eq_true ⟨hr, by omega⟩⟩; have hlt' : decide (rx < gw) = true := decide_eq_true hlt; clear hrx hr hlt; go_quiet (fail)
       go_wp2_with fail
       go_meet
       exact ⟨by rw [HC.out], _, by rw [World.drewN_drewN]⟩
      have HC : Hd (cnd = false) := ⟨by rw [HCND.out]; exact decide_eq_false (fun h => by omega)⟩; have hlt' : decide (rx < gw) = false := decide_eq_false hlt; clear hrx hr hlt; go_quiet (fail)
      go_wp2_with fail
      go_meet
      exact ⟨by rw [HC.out], _, by rw [World.drewN_drewN]⟩
     have hr' : decide ((rest : Int) < 4294967296) = false := decide_eq_false (by omega); have HC : Hd (cnd = false) := ⟨by rw [HCND.out]; exact decide_eq_false (fun h => hr h.1)⟩; clear hr; go_quiet (fail)
     go_wp2_with fail
     go_meet
     exact ⟨by rw [HC.out], _, by rw [World.drewN_drewN]⟩
    case rest => as_aux_lemma =>
     obtain ⟨rfl, qf, rfl⟩ := hcut; rcases cnd with _ | _
     ·have HX : Hd (4294967296 ≤ rest ∨ g * v2 ≤ rest * 4294967296 + x0) := ⟨by
       have h := of_decide_eq_false HCND.out.symm; rw [← HGW.out]
       omega⟩
      have HFIX := Hd.mk (HDG.out.fix g rest HSS.out HGG.out hg3 HX.out); have hsl : ((us.drop j).take (lb + 1)).length = lb + 1 := by rw [List.length_take, List.length_drop, HUL.out]; omega
      have hBk : Blk (wo.drewN qf) gU 123 (cells (us.take j) ++ (cells ((us.drop j).take (lb + 1)) ++ (cells ((us.drop j).drop (lb + 1)) ++ post))) := by
       rw [← seg_split]; exact HU.out.drewN qf
      have HBK := Hd.mk hBk; have HSL := Hd.mk hsl; have HPL : Hd ((cells (us.take j)).length = j) := ⟨by rw [cells_length, List.length_take, HUL.out]; omega⟩; have HTK := Hd.mk (take_calls gU j (lb + 1) (cu - j) (cells (us.take j)) (cells ((us.drop j).drop (lb + 1)) ++ post) ((us.drop j).take (lb + 1)) (some adv) cvv v g (wo.drewN qf) HPL.out hsl (dg_take (dg_drop HUD.out _) _) hBk (HNVr.out.to (below_drewN (Below.refl _ _) _)) HFAR.out (by omega) (by omega) (by omega) (by rw [HLV.out]; omega) hg3); rw [HLV.out] at HTK; obtain ⟨gvv, hgvv⟩ : ∃ x, x = g * v := ⟨_, rfl⟩; rw [← hgvv] at HFIX; have HGVV := Hd.mk hgvv; clear HCND HX e3 HGW hBk hsl hgvv; go_wp2_with fail
      rw [HPJ.out]; refine HTK.out.mono ?_; rintro e wt ⟨rfl, ds, hdl, hdd, hval, hblk, hgr⟩; rw [← HWQ.out, ← HGVV.out] at hval; rw [← HWQ.out, ← HGVV.out]; have HDL := Hd.mk hdl; have HDD := Hd.mk hdd; have HVL := Hd.mk hval; have HBT := Hd.mk hblk; have HGR := Hd.mk hgr; have HQT := Hd.mk ((HQ.out.drewN qf).only hgr (Ne.symm hne)); clear hdl hdd hval hblk hgr HTK HBK; by_cases hW : W < gvv
      ·have hWd : decide (W < gvv) = true := decide_eq_true hW; rw [hWd]; obtain ⟨hg1, hfx1, hfx2⟩ := HFIX.out.1 hW; obtain ⟨g2, hg2⟩ : ∃ x, x = g - 1 := ⟨_, rfl⟩; have e6 : (g : Int) - 1 = (g2 : Int) := by omega
       have hg2l : g2 < 4294967296 := by omega
       have HGV := Hd.mk (give_calls gU j (lb + 1) (cu - j) (cells (us.take j)) (cells ((us.drop j).drop (lb + 1)) ++ post) ds (some adv) cvv v wt HPL.out HDL.out HDD.out HBT.out ((HNVr.out.to (below_drewN (Below.refl _ _) qf)).only HGR.out HFAR.out) HFAR.out (by omega) (by omega) (by omega) (by rw [HLV.out]; omega)); rw [HLV.out] at HGV; have HFN := Hd.mk (fun d2 e2 => fit_no (W := W) (q := g) (v := v) (L := lb + 1) (d := val ds) (d2 := d2) (by rw [HGVV.out] at hW; exact hW) (by rw [← HGVV.out]; exact HVL.out) hg1 hfx1 hfx2 (Nat.lt_of_lt_of_le HVN.out (Nat.pow_le_pow_right B_pos (by omega))) e2); rw [← hg2] at HFN; clear hWd hW hg1 hfx1 hfx2 hg2 HFIX; go_wp2_with fail
       rw [HPJ.out]; refine HGV.out.mono ?_; rintro e wu ⟨rfl, ds2, hdl2, hdd2, hval2, hblk2, hgr2⟩; have HDL2 := Hd.mk hdl2; have HDD2 := Hd.mk hdd2; have HBT2 := Hd.mk hblk2; have HGR2 := Hd.mk hgr2; have HFY := Hd.mk (HFN.out _ hval2); have HQT2 := Hd.mk (HQT.out.only hgr2 (Ne.symm hne)); clear hdl2 hdd2 hval2 hblk2 hgr2 HGV HFN; have cq := HQT2.out.at_ (i := j) (by have := HQL.out; omega); have fq := HQT2.out.frozen j; have HQP := Hd.mk (HQT2.out.put j g2); have HLS := Hd.mk (long_step (g := g2) (ds := ds2) HUL.out HUD.out HVN.out (by omega) (by have := HQL.out; omega) HLG.out (by rw [← HWQ.out]; exact HFY.out.1) HFY.out.2 rfl HDL2.out); have hgm : (g2 : Int) % 4294967296 = (g2 : Int) := by omega
       go_wp2_with fail
       go_roundw
       case rel =>
        refine ⟨j, us.take j ++ (ds2 ++ (us.drop j).drop (lb + 1)), qs.set j g2, by omega, rfl, len_join HUL.out HDL2.out hjn, dg_join HUD.out HDD2.out, by rw [List.length_set]; exact HQL.out, dg_set HQD.out _ hg2l, HLS.out, ?_, HQP.out, ?_, ?_⟩
        ·rw [← seg_join]; exact HBT2.out.far hne _
        ·exact ((((HNVr.out.to (below_drewN (Below.refl _ _) qf)).only HGR.out HFAR.out).only HGR2.out HFAR.out).only (only_setCell (World.grownBy.refl _ _) rfl _) HFAR2.out)
        exact below_set (((below_drewN HB.out qf).grown HGR.out HB.out.size (fun _ h => by cases h; exact hgUw)).grown HGR2.out (Nat.le_trans HB.out.size HGR.out.size) (fun _ h => by cases h; exact hgUw)) HBW.out.size _
       case measure => simp [intOf]
      have hWd : decide (W < gvv) = false := decide_eq_false hW; have HFY := Hd.mk (fit_yes (by rw [HGVV.out] at hW; exact hW) (by rw [← HGVV.out]; exact HVL.out) (by rw [← HGVV.out]; exact HFIX.out.2 hW)); rw [hWd]; have cq := HQT.out.at_ (i := j) (by have := HQL.out; omega); have fq := HQT.out.frozen j; have HQP := Hd.mk (HQT.out.put j g); have HLS := Hd.mk (long_step (g := g) (ds := ds) HUL.out HUD.out HVN.out (by omega) (by have := HQL.out; omega) HLG.out (by rw [← HWQ.out]; exact HFY.out.1) HFY.out.2 rfl HDL.out); have hgm : (g : Int) % 4294967296 = (g : Int) := by omega
      clear hWd hW; go_wp2_with fail
      go_roundw
      case rel =>
       refine ⟨j, us.take j ++ (ds ++ (us.drop j).drop (lb + 1)), qs.set j g, by omega, rfl, len_join HUL.out HDL.out hjn, dg_join HUD.out HDD.out, by rw [List.length_set]; exact HQL.out, dg_set HQD.out _ hg3, HLS.out, ?_, HQP.out, ?_, ?_⟩
       ·rw [← seg_join]; exact HBT.out.far hne _
       ·exact (((HNVr.out.to (below_drewN (Below.refl _ _) qf)).only HGR.out HFAR.out).only (only_setCell (World.grownBy.refl _ _) rfl _) HFAR2.out)
       exact below_set ((below_drewN HB.out qf).grown HGR.out HB.out.size (fun _ h => by cases h; exact hgUw)) HBW.out.size _
      case measure => simp [intOf]
     have hk := of_decide_eq_true HCND.out.symm; have hst := HDG.out.step g rest HSS.out HGG.out (by rw [← HGW.out]; exact hk.2); have hg0 : 1 ≤ g := hst.1; have HST := Hd.mk hst.2; have hrs : rest < 4294967296 := hk.1
     have HS2 : Hd ((g - 1) * v1 + (rest + v1) = top) := ⟨by
      have h := HSS.out; have e : (g - 1) * v1 + v1 = g * v1 := by rw [← Nat.succ_mul]; congr 1; omega
      omega⟩
     obtain ⟨g2, hg2⟩ : ∃ x, x = g - 1 := ⟨_, rfl⟩; obtain ⟨r2, hr2⟩ : ∃ x, x = rest + v1 := ⟨_, rfl⟩; have e6 : (g : Int) - 1 = (g2 : Int) := by omega
     have e7 : (rest : Int) + (v1 : Int) = (r2 : Int) := by omega
     rw [← hg2, ← hr2] at HS2; rw [← hg2] at HST; have hr2l : r2 ≤ 18446744073709551615 := by omega
     have hg2l : g2 < 4294967296 := by omega
     have hr2m : 4294967296 - r2 < 4294967296 - rest := by omega
     clear hk hst HCND HGW e3 hg2 hr2; go_wp2_with fail
     go_roundw
     case rel => exact ⟨g2, r2, rfl, rfl, hg2l, HS2.out, HST.out, _, rfl⟩
     case measure => simp [intOf]; omega
end Go.Proofs.YtddbmckbankmeaaGreat.Ex
