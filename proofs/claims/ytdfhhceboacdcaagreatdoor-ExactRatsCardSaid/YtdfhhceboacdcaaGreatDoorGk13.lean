/- Part 13 of the texts behind this claim. -/
import Derived.Deep.CutBlock
import Derived.Test.YtdfhhceboacdcaaGreatDoorGk6
import Derived.Test.YtdfhhceboacdcaaGreatDoorGk8
import Derived.Test.YtdfhhceboacdcaaGreatDoorGk12
set_option linter.unusedVariables false
namespace Go.Proofs.YtdfhhceboacdcaaGreatDoor
open Go.RowKit
theorem only_setCell {a w : World} {g : Nat} (h : a.grownBy w (some g)) {p : Addr} (hp : p.block = g) (u : Value) : a.grownBy (w.setCell p u) (some g) :=
 ⟨h.os, h.tape, h.output, by simpa [World.setCell] using h.size, fun i hi hne => (Below.heap_setCell w p u i (by
  rintro rfl
  exact hne (by rw [hp]))).trans (h.block i hi hne)⟩
def Far (A : Option Addr) (g : Nat) : Prop := ∀ ad, A = some ad → ad.block ≠ g
theorem RN.only {w w' : World} {A : Option Addr} {xs : List Nat} {g : Nat} (h : RN w A xs) (hg : w.grownBy w' (some g)) (hA : Far A g) : RN w' A xs := fun hn => by
 obtain ⟨ad, e, hc⟩ := h hn; refine ⟨ad, e, fun j hj => ?_⟩; have h1 := hc j hj; rw [← h1]; have hlt := World.block_lt_of_cell? w _ h1; refine World.cell?_of_block (hg.block _ hlt (fun h2 => ?_)); rw [block_add] at h2; exact hA ad e (Option.some.inj h2)
theorem NN.only {w w' : World} {A : Option Addr} {c n g : Nat} (h : NN w A c n) (hg : w.grownBy w' (some g)) (hA : Far A g) : NN w' A c n := ⟨h.1.only hg hA, h.2⟩
theorem Blk.only {w w' : World} {g g' : Nat} {t : TypeId} {cs : List Value} (h : Blk w g' t cs) (hg : w.grownBy w' (some g)) (hne : g' ≠ g) : Blk w' g' t cs :=
 (hg.block g' h.lt (fun e => hne (Option.some.inj e))).trans h
theorem seg_get {pre : List Value} {us : List Nat} {post : List Value} {j i : Nat} (hj : pre.length = j) (hi : i < us.length) : (pre ++ (cells us ++ post))[j + i]? = some (.int .u32 ((us.getD i 0 : Nat) : Int)) := by
 rw [List.getElem?_append_right (by omega), hj, Nat.add_sub_cancel_left, List.getElem?_append_left (by rw [cells_length]; exact hi), cells_get us hi]
theorem seg_set {pre : List Value} {us : List Nat} {post : List Value} {j i x : Nat} (hj : pre.length = j) (hi : i < us.length) : (pre ++ (cells us ++ post)).set (j + i) (.int .u32 ((x : Nat) : Int)) = pre ++ (cells (us.set i x) ++ post) := by
 rw [List.set_append_right _ _ (by omega), hj, Nat.add_sub_cancel_left, List.set_append_left _ _ (by rw [cells_length]; exact hi), cells_set]
theorem over_next {ds us : List Nat} {k : Nat} (hl : ds.length = k) (hk : k < us.length) (x : Nat) : (ds ++ us.drop k).set k x = (ds ++ [x]) ++ us.drop (k + 1) := by
 rw [List.set_append_right _ _ (by omega), hl, Nat.sub_self, List.drop_eq_getElem_cons hk, List.set_cons_zero]; simp
theorem over_get {ds us : List Nat} {k : Nat} (hl : ds.length = k) (hk : k < us.length) : (ds ++ us.drop k).getD k 0 = us.getD k 0 := by
 rw [List.getD_eq_getElem?_getD, List.getElem?_append_right (by omega), hl, Nat.sub_self, List.getElem?_drop, List.getD_eq_getElem?_getD, Nat.add_zero]
theorem take_step {ds : List Nat} {k c bw u y g U V : Nat} (hl : ds.length = k) (hu : u < 4294967296) (hb : bw ≤ 1) (h : val ds + g * V = U + B ^ k * c + B ^ k * bw) :
  val (ds ++ [(4294967296 + u - (g * y + c) % 4294967296 - bw) % 4294967296]) + g * (V + B ^ k * y) = (U + B ^ k * u) + B ^ (k + 1) * ((g * y + c) / 4294967296) + B ^ (k + 1) * (if u < (g * y + c) % 4294967296 + bw then 1 else 0) := by
 have hx : (g * y + c) % 4294967296 < 4294967296 := Nat.mod_lt _ (by decide); have e := sub_digit hu hx hb
 have e0 : B ^ k * ((g * y + c) % 4294967296) + B ^ k * (B * ((g * y + c) / 4294967296)) = B ^ k * (g * y) + B ^ k * c := by
  rw [← Nat.mul_add, ← Nat.mul_add]; congr 1
  exact Nat.mod_add_div _ _
 generalize (4294967296 + u - (g * y + c) % 4294967296 - bw) % 4294967296 = d at e ⊢; generalize (if u < (g * y + c) % 4294967296 + bw then 1 else 0 : Nat) = z at e ⊢; generalize (g * y + c) % 4294967296 = x at e e0 ⊢; generalize (g * y + c) / 4294967296 = c2 at e0 ⊢; rw [val_snoc, hl, Nat.pow_succ, Nat.mul_assoc, Nat.mul_assoc, Nat.mul_add, Nat.mul_left_comm g]; have e2 : B ^ k * (d + x + bw) = B ^ k * (u + B * z) := by rw [e]; rfl
 rw [Nat.mul_add, Nat.mul_add, Nat.mul_add] at e2; omega
def RetTake (us : List Nat) (q L gB : Nat) (pre post : List Value) (w : World) (e : Ending) (w' : World) : Prop := e = .returned (.bool (decide (val us < q))) ∧ ∃ ds : List Nat, ds.length = L ∧ Dg ds ∧ val ds + q = val us + (if val us < q then B ^ L else 0) ∧ Blk w' gB 46 (pre ++ (cells ds ++ post)) ∧ w.grownBy w' (some gB)
set_option maxHeartbeats 2000000 in
set_option maxRecDepth 100000 in
theorem take_calls (gB j L cu : Nat) (pre post : List Value) (us : List Nat) (A2 : Option Addr) (c2 v g : Nat) (w : World) (hp : pre.length = j) (hu : us.length = L) (hdu : Dg us) (hBk : Blk w gB 46 (pre ++ (cells us ++ post))) (h2 : NN w A2 c2 v) (hA : Far A2 gB) (hL : L ≤ 1073741824) (hj : j ≤ 1073741824) (hcu : L ≤ cu) (hlv : ln v < L) (hg : g < 4294967296) :
  Calls Tryz.prog 95 #[.slice (some ⟨gB, j, none⟩) L cu, .slice A2 (ln v) c2, .int .u32 (g : Int)] w (RetTake us (g * v) L gB pre post w) := by
 have HY := Hd.mk h2; have HK0 := Hd.mk hBk; have HP := Hd.mk hp; have HU := Hd.mk hu; have HDU := Hd.mk hdu; have HA := Hd.mk hA; clear h2 hBk hp hu hdu hA; go_enter Tryz.func95, Tryz.ntmps95
 go_wp2
 go_loopw [7, 8, 14] (fun s7 s8 s14 wr => ∃ (k c bw : Nat) (ds : List Nat), k ≤ L ∧ s14 = .int .i64 k ∧ s7 = .int .u64 (c : Int) ∧ s8 = .int .u32 (bw : Int) ∧ c < 4294967296 ∧ bw ≤ 1 ∧ (ln v < k → c = 0) ∧ ds.length = k ∧ Dg ds ∧ val ds + g * val ((dig v).take k) = val (us.take k) + B ^ k * c + B ^ k * bw ∧ Blk wr gB 46 (pre ++ (cells (ds ++ us.drop k) ++ post)) ∧ w.grownBy wr (some gB)) (fun _ _ s _ => L - (intOf s).toNat)
 case atStart => exact ⟨0, 0, 0, [], Nat.zero_le _, rfl, rfl, rfl, by omega, by omega, fun _ => rfl, rfl, (fun x hx => by cases hx), by simp [val], HK0.out, World.grownBy.refl _ _⟩
 case round =>
  obtain ⟨k, c, bw, ds, hk, rfl, rfl, rfl, hc, hbw, hc0, hdl, hdd, hval, hblk, hgr⟩ := hrel; have HV := Hd.mk hval; have HK := Hd.mk hblk; have HL := Hd.mk hdl; have HG := Hd.mk hgr; have HDD := Hd.mk hdd; have HC0 := Hd.mk hc0; clear hval hblk hdl hgr hdd hc0; by_cases hkl : k < L
  ·have hkl2 : (ds ++ us.drop k).length = L := by rw [List.length_append, List.length_drop, HL.out, HU.out]; omega
   have hck : wr.cell? ⟨gB, j + k, none⟩ = some (.int .u32 ((us.getD k 0 : Nat) : Int)) := by
    rw [HK.out.cell, seg_get HP.out (by omega), over_get HL.out (by have := HU.out; omega)]
   have hfz := HK.out.frozen (j + k); obtain ⟨u, huq⟩ : ∃ u, u = us.getD k 0 := ⟨_, rfl⟩; have hul : u < 4294967296 := by rw [huq]; exact dg_get HDU.out k
   rw [← huq] at hck; obtain ⟨y, hy⟩ : ∃ y, y = (dig v).getD k 0 := ⟨_, rfl⟩; have hyl : y < 4294967296 := by rw [hy]; exact dg_get (dg_dig v) k
   have hstep := take_step (ds := ds) (k := k) (c := c) (bw := bw) (u := u) (y := y) (g := g) HL.out hul hbw HV.out; rw [huq, ← val_take_next, hy, ← val_take_next, ← hy, ← huq] at hstep; obtain ⟨hf1, hf2, hf3⟩ := mul_fits (x := g) (y := y) (o := 0) (c := c) hg hyl (by omega) hc; rw [Nat.add_zero] at hf2 hf3; obtain ⟨p, hpq⟩ : ∃ p, p = g * y := ⟨_, rfl⟩; rw [← hpq] at hf1 hf2 hf3 hstep; obtain ⟨x, hx⟩ : ∃ x, x = (p + c) % 4294967296 := ⟨_, rfl⟩; obtain ⟨c3, hc3⟩ : ∃ c3, c3 = (p + c) / 4294967296 := ⟨_, rfl⟩; have hxl : x < 4294967296 := by omega
   rw [← hc3] at hf3; rw [← hx, ← hc3] at hstep; have hput := HK.out.set_ (j + k) (.int .u32 (((4294967296 + u - x - bw) % 4294967296 : Nat) : Int)); rw [seg_set HP.out (by omega), over_next HL.out (by have := HU.out; omega)] at hput; have HS := Hd.mk (fun W => sub32_calls u x bw hul hxl hbw W); have hb1 : (if u < x + bw then 1 else 0 : Nat) ≤ 1 := by split <;> omega
   obtain ⟨b2, hb2⟩ : ∃ b2 : Nat, b2 = (if u < x + bw then 1 else 0 : Nat) := ⟨_, rfl⟩; obtain ⟨dd, hdd2⟩ : ∃ dd : Nat, dd = (4294967296 + u - x - bw) % 4294967296 := ⟨_, rfl⟩; have hddl : dd < B := by rw [hdd2]; exact Nat.mod_lt _ (by decide)
   rw [← hb2, ← hdd2] at hstep HS; rw [← hb2] at hb1; rw [← hdd2] at hput; have e1 : ((p : Int) + (c : Int)) % 4294967296 = (x : Int) := by omega
   have e2 : ((p : Int) + (c : Int)) / 4294967296 = (c3 : Int) := by omega
   have e3 : (g : Int) * (y : Int) = (p : Int) := by rw [hpq]; exact (Int.natCast_mul g y).symm
   have hf2' : (p : Int) + (c : Int) ≤ 18446744073709551615 := by omega
   have HST := Hd.mk hstep; have HPT := Hd.mk hput; by_cases hkq : k < ln v
   ·obtain ⟨a2, rfl, hcell2⟩ := (HY.out.only HG.out HA.out).at_ hkq; rw [← hy] at hcell2; have HC3 : Hd (ln v < k + 1 → c3 = 0) := ⟨fun h => by omega⟩; clear hstep hput hb2 hdd2 hpq hx hc3 huq hy hkl2; go_wp2_with (first | (go_at_call 98; refine (HS.out _).mono ?_; rintro e w' ⟨rfl, rfl⟩))
    go_roundw
    case rel => exact ⟨k + 1, c3, b2, ds ++ [dd], by omega, by go_num, by first | rfl | rw [e2], rfl, hf3, hb1, HC3.out, by rw [List.length_append, HL.out]; rfl, dg_append HDD.out (dg_one hddl), HST.out, HPT.out, only_setCell HG.out rfl _⟩
    case measure => simp [intOf]; omega
   have hy0 : y = 0 := by rw [hy]; exact getD_zero_of_le (by unfold ln at hkq; omega)
   have hp0 : p = 0 := by rw [hpq, hy0]; rfl
   have hxc : x = c := by omega
   have hc30 : c3 = 0 := by omega
   have e4 : (c : Int) % 4294967296 = (c : Int) := by omega
   rw [hxc] at HS; rw [hc30] at HST; clear hstep hput hb2 hdd2 hpq hx hc3 huq hy hkl2 hy0 hp0 e1 e2 e3 hxc; go_wp2_with (first | (go_at_call 98; refine (HS.out _).mono ?_; rintro e w' ⟨rfl, rfl⟩))
   go_roundw
   case rel => exact ⟨k + 1, 0, b2, ds ++ [dd], by omega, by go_num, rfl, rfl, by omega, hb1, fun _ => rfl, by rw [List.length_append, HL.out]; rfl, dg_append HDD.out (dg_one hddl), HST.out, HPT.out, only_setCell HG.out rfl _⟩
   case measure => simp [intOf]; omega
  have hke : k = L := by omega
  subst hke; have hcz := HC0.out hlv; have hv := HV.out; rw [hcz, List.take_of_length_le (show us.length ≤ k by have := HU.out; omega), List.take_of_length_le (show (dig v).length ≤ k by rw [dig_length]; omega), val_dig] at hv; have hdlt := val_lt HDD.out; rw [HL.out] at hdlt
  have hblk : Blk wr gB 46 (pre ++ (cells ds ++ post)) := by
   have := HK.out; rwa [List.drop_eq_nil_of_le (by have := HU.out; omega), List.append_nil] at this
  have HKK := Hd.mk hblk
  have hcase : decide (val us < g * v) = decide (bw ≠ 0) ∧ val ds + g * v = val us + (if val us < g * v then B ^ k else 0) := by
   rcases Nat.lt_or_ge bw 1 with h | h
   ·have : bw = 0 := by omega
    subst this; have hn : ¬ val us < g * v := by omega
    rw [if_neg hn]; exact ⟨by simp [hn], by omega⟩
   have : bw = 1 := by omega
   subst this; have hn : val us < g * v := by omega
   rw [if_pos hn]; exact ⟨by simp [hn], by omega⟩
  have HCS := Hd.mk hcase; clear hcase hv hblk hdlt hcz; go_wp2_with fail
  go_ret
  refine ⟨?_, ds, HL.out, HDD.out, HCS.out.2, HKK.out, HG.out⟩; rw [HCS.out.1]; exact ret_bool (by rw [Bool.eq_iff_iff]; simp; try omega)
def RetGive (us : List Nat) (q L gB : Nat) (pre post : List Value) (w : World) (e : Ending) (w' : World) : Prop := e = .returned (.tuple #[]) ∧ ∃ ds : List Nat, ds.length = L ∧ Dg ds ∧ val ds = (val us + q) % B ^ L ∧ Blk w' gB 46 (pre ++ (cells ds ++ post)) ∧ w.grownBy w' (some gB)
set_option maxHeartbeats 2000000 in
set_option maxRecDepth 100000 in
theorem give_calls (gB j L cu : Nat) (pre post : List Value) (us : List Nat) (A2 : Option Addr) (c2 v : Nat) (w : World) (hp : pre.length = j) (hu : us.length = L) (hdu : Dg us) (hBk : Blk w gB 46 (pre ++ (cells us ++ post))) (h2 : NN w A2 c2 v) (hA : Far A2 gB) (hL : L ≤ 1073741824) (hj : j ≤ 1073741824) (hcu : L ≤ cu) (hlv : ln v ≤ L) :
  Calls Tryz.prog 96 #[.slice (some ⟨gB, j, none⟩) L cu, .slice A2 (ln v) c2] w (RetGive us v L gB pre post w) := by
 have HY := Hd.mk h2; have HK0 := Hd.mk hBk; have HP := Hd.mk hp; have HU := Hd.mk hu; have HDU := Hd.mk hdu; have HA := Hd.mk hA; clear h2 hBk hp hu hdu hA; go_enter Tryz.func96, Tryz.ntmps96
 go_wp2
 go_loopw [4, 9] (fun s4 s9 wr => ∃ (k cy : Nat) (ds : List Nat), k ≤ L ∧ s9 = .int .i64 k ∧ s4 = .int .u32 (cy : Int) ∧ cy ≤ 1 ∧ ds.length = k ∧ Dg ds ∧ val ds + B ^ k * cy = val (us.take k) + val ((dig v).take k) ∧ Blk wr gB 46 (pre ++ (cells (ds ++ us.drop k) ++ post)) ∧ w.grownBy wr (some gB)) (fun _ s _ => L - (intOf s).toNat)
 case atStart => exact ⟨0, 0, [], Nat.zero_le _, rfl, rfl, by omega, rfl, (fun x hx => by cases hx), by simp [val], HK0.out, World.grownBy.refl _ _⟩
 case round =>
  obtain ⟨k, cy, ds, hk, rfl, rfl, hcy, hdl, hdd, hval, hblk, hgr⟩ := hrel; have HV := Hd.mk hval; have HK := Hd.mk hblk; have HL := Hd.mk hdl; have HG := Hd.mk hgr; have HDD := Hd.mk hdd; clear hval hblk hdl hgr hdd; by_cases hkl : k < L
  ·have hkl2 : (ds ++ us.drop k).length = L := by rw [List.length_append, List.length_drop, HL.out, HU.out]; omega
   have hck : wr.cell? ⟨gB, j + k, none⟩ = some (.int .u32 ((us.getD k 0 : Nat) : Int)) := by
    rw [HK.out.cell, seg_get HP.out (by omega), over_get HL.out (by have := HU.out; omega)]
   have hfz := HK.out.frozen (j + k); obtain ⟨u, huq⟩ : ∃ u, u = us.getD k 0 := ⟨_, rfl⟩; have hul : u < 4294967296 := by rw [huq]; exact dg_get HDU.out k
   rw [← huq] at hck; obtain ⟨y, hy⟩ : ∃ y, y = (dig v).getD k 0 := ⟨_, rfl⟩; have hyl : y < 4294967296 := by rw [hy]; exact dg_get (dg_dig v) k
   have hstep := add_step (ds := ds) (k := k) (cy := cy) (a := u) (b := y) HL.out HV.out; rw [huq, ← val_take_next, hy, ← val_take_next, ← hy, ← huq] at hstep; have hput := HK.out.set_ (j + k) (.int .u32 (((u + y + cy) % 4294967296 : Nat) : Int)); rw [seg_set HP.out (by omega), over_next HL.out (by have := HU.out; omega)] at hput; have HS := Hd.mk (fun W => add32_calls u y cy hul hyl hcy W); obtain ⟨b2, hb2⟩ : ∃ b2 : Nat, b2 = (u + y + cy) / 4294967296 := ⟨_, rfl⟩; have hb1 : b2 ≤ 1 := by omega
   obtain ⟨dd, hdd2⟩ : ∃ dd : Nat, dd = (u + y + cy) % 4294967296 := ⟨_, rfl⟩; have hddl : dd < B := by rw [hdd2]; exact Nat.mod_lt _ (by decide)
   rw [← hb2, ← hdd2] at hstep HS; rw [← hdd2] at hput; have HST := Hd.mk hstep; have HPT := Hd.mk hput; by_cases hkq : k < ln v
   ·obtain ⟨a2, rfl, hcell2⟩ := (HY.out.only HG.out HA.out).at_ hkq; rw [← hy] at hcell2; clear hstep hput hb2 hdd2 huq hy hkl2; go_wp2_with (first | (go_at_call 79; refine (HS.out _).mono ?_; rintro e w' ⟨rfl, rfl⟩))
    go_roundw
    case rel => exact ⟨k + 1, b2, ds ++ [dd], by omega, by go_num, rfl, hb1, by rw [List.length_append, HL.out]; rfl, dg_append HDD.out (dg_one hddl), HST.out, HPT.out, only_setCell HG.out rfl _⟩
    case measure => simp [intOf]; omega
   have hy0 : y = 0 := by rw [hy]; exact getD_zero_of_le (by unfold ln at hkq; omega)
   rw [hy0] at HS; clear hstep hput hb2 hdd2 huq hy hkl2 hy0; go_wp2_with (first | (go_at_call 79; refine (HS.out _).mono ?_; rintro e w' ⟨rfl, rfl⟩))
   go_roundw
   case rel => exact ⟨k + 1, b2, ds ++ [dd], by omega, by go_num, rfl, hb1, by rw [List.length_append, HL.out]; rfl, dg_append HDD.out (dg_one hddl), HST.out, HPT.out, only_setCell HG.out rfl _⟩
   case measure => simp [intOf]; omega
  have hke : k = L := by omega
  subst hke; have hv := HV.out; rw [List.take_of_length_le (show us.length ≤ k by have := HU.out; omega), List.take_of_length_le (show (dig v).length ≤ k by rw [dig_length]; omega), val_dig] at hv; have hdlt := val_lt HDD.out; rw [HL.out] at hdlt
  have hblk : Blk wr gB 46 (pre ++ (cells ds ++ post)) := by
   have := HK.out; rwa [List.drop_eq_nil_of_le (by have := HU.out; omega), List.append_nil] at this
  have HKK := Hd.mk hblk; have HVV : Hd (val ds = (val us + v) % B ^ k) := ⟨by rw [← hv, Nat.add_mul_mod_self_left, Nat.mod_eq_of_lt hdlt]⟩; clear hv hblk hdlt; go_wp2_with fail
  refine bodyPost_ret (v := .tuple #[]) (by simp [results, Tryz.results96, go_sem]) rfl ?_; exact ⟨rfl, ds, HL.out, HDD.out, HVV.out, HKK.out, HG.out⟩
theorem dig_aw : dig (val [0, 0, 1]) = [0, 0, 1] := by
 refine dig_val (fun x hx => ?_) (fun k hk => ?_)
 ·simp at hx; rcases hx with rfl | rfl <;> decide
 have : k = 2 := by simp at hk; omega
 subst this; decide
theorem ln_aw : ln (val [0, 0, 1]) = 3 := by unfold ln; rw [dig_aw]; rfl
def awz : Int := ((val [0, 0, 1] : Nat) : Int)
theorem awz_ln : ln awz.natAbs = 3 := by unfold awz; rw [Int.natAbs_natCast, ln_aw]
theorem awz_nonneg : decide (awz < 0) = false := decide_eq_false (by unfold awz; omega)
theorem awz_opz (A : Option Addr) (c : Nat) : opz ⟨false, A, c, [0, 1]⟩ ⟨false, A, c, [0, 1]⟩ (Raw.val ⟨false, A, c, [0, 1]⟩ * Raw.val ⟨false, A, c, [0, 1]⟩) = awz ∧ ope ⟨false, A, c, [0, 1]⟩ ⟨false, A, c, [0, 1]⟩ (Raw.val ⟨false, A, c, [0, 1]⟩ * Raw.val ⟨false, A, c, [0, 1]⟩) = 0 := by
 have e : Raw.val ⟨false, A, c, [0, 1]⟩ * Raw.val ⟨false, A, c, [0, 1]⟩ = awz := by
  unfold Raw.val awz; simp [val, B]
 have ho : Raw.ok ⟨false, A, c, [0, 1]⟩ = true := rfl; rw [e]; unfold opz ope fitz fite; rw [ho, awz_ln]; exact ⟨rfl, rfl⟩
theorem awz_nn {w : World} {g : Nat} {t : TypeId} (h : Blk w g t (cells [0, 0, 1])) : NN w (some ⟨g, 0, none⟩) 3 awz.natAbs := by
 have e : awz.natAbs = val [0, 0, 1] := by unfold awz; rw [Int.natAbs_natCast]
 rw [e]; exact ⟨by rw [dig_aw]; exact h.reads, by rw [ln_aw]; exact Nat.le_refl _, by omega⟩
set_option maxRecDepth 100000 in
theorem awake_calls (w : World) : Calls Tryz.prog 8 #[] w fun e w' => e = .returned (.bool true) ∧ Below w.heap.size w w' := by
 go_enter Tryz.func8, Tryz.ntmps8
 go_wp2_with fail
 obtain ⟨W0, hW0⟩ : ∃ W : World, W = (w.alloc (.cells #[.int .u32 0, .int .u32 1] 46)).alloc (.cells #[.bool false, .slice (some ⟨w.heap.size, 0, none⟩) 2 2] 24) := ⟨_, rfl⟩; rw [← hW0]; obtain ⟨hB0, hB1, hBW⟩ := boxes2 hW0; have HB1 := Hd.mk hB1; have HW := Hd.mk hBW; have ha : Raw.at_ ⟨false, some ⟨w.heap.size, 0, none⟩, 2, [0, 1]⟩ W0 := ⟨Blk.reads (ds := [0, 1]) hB0, by intro x hx; simp at hx; rcases hx with rfl | rfl <;> decide, Nat.le_refl _, by show (2 : Nat) ≤ 9223372036854775807; omega⟩; have hm := Mul_calls _ _ W0 ha ha; rw [(awz_opz _ _).1, (awz_opz _ _).2] at hm; have HM : Hd (Calls Tryz.prog _ #[.agg #[.bool false, .slice (some ⟨w.heap.size, 0, none⟩) 2 2], .agg #[.bool false, .slice (some ⟨w.heap.size, 0, none⟩) 2 2]] W0 (RetZE awz 0 W0)) := ⟨hm⟩; clear hW0 hB0 hB1 hBW ha hm; refine HM.out.mono ?_; rintro e w1 ⟨A4, c4, rfl, hn4, hb1⟩; have HS := Hd.mk (fun W g (hW : Below w1.heap.size w1 W) (hB : Blk W g 46 (cells [0, 0, 1])) => same_calls awz awz A4 c4 (some ⟨g, 0, none⟩) 3 W (hn4.to hW) (awz_nn hB)); rw [awz_ln, awz_nonneg] at HS; rw [awz_ln, awz_nonneg]; have HBB := Hd.mk (bel_then HW.out hb1); clear hn4 hb1 HM; go_wp2_with fail
 refine (HS.out _ _ (by repeat (first | exact Below.refl _ _ | refine below_alloc ?_ _ | refine below_set ?_ (by first | exact Nat.le_refl _ | omega | (simp; done) | (simp; omega)) _)) (blk_new (by simp) _ _)).mono ?_; rintro e w2 ⟨rfl, hb2⟩; have HB2 := Hd.mk hb2; clear hb2; go_wp2_with fail
 go_ret
 refine ⟨by simp, bel_then HBB.out ?_⟩; refine bel_then ?_ HB2.out; repeat (first | exact Below.refl _ _ | refine below_alloc ?_ _ | refine below_set ?_ (by first | exact Nat.le_refl _ | omega | (simp; done) | (simp; omega)) _)
end Go.Proofs.YtdfhhceboacdcaaGreatDoor
set_option linter.unusedVariables false
namespace Go.Proofs.YtdfhhceboacdcaaGreatDoor
open Go.RowKit
theorem run_fld_whole (b s : Value) (W : World) : (Instr.field 51 (.agg #[b, s]) 1).run Tryz.prog W = .ok s W := by
 simp [Instr.field, run_underlying Tryz.underlying51, asAgg, go_sem]
theorem run_fld_Z (b s : Value) (W : World) : (Instr.field 61 (.agg #[b, s]) 1).run Tryz.prog W = .ok s W := by
 simp [Instr.field, run_underlying Tryz.underlying61, asAgg, go_sem]
attribute [local go_sem] run_fld_whole run_fld_Z
theorem ln_two {n : Int} (h1 : -9223372036854775808 ≤ n) (h2 : n ≤ 9223372036854775807) : ln n.natAbs ≤ 2 := by
 apply ln_le; have h3 : B ^ 2 = 18446744073709551616 := by decide
 rw [h3]; omega
theorem wrap_neg {n : Int} (h1 : -9223372036854775808 ≤ n) (h : n < 0) : IntKind.u64.wrap (-IntKind.u64.wrap n) = ((n.natAbs : Nat) : Int) := by
 rw [IntKind.wrap_u64, IntKind.wrap_u64]; omega
set_option maxRecDepth 100000 in
theorem Whole_calls (n : Int) (w : World) (h1 : -9223372036854775808 ≤ n) (h2 : n ≤ 9223372036854775807) :
  Calls Tryz.prog 36 #[.int .i64 n] w (RetZ n w) := by
 by_cases hn : n < 0
 ·have HC : Hd (∀ W, Calls Tryz.prog 54 #[.int .u64 (-(n + 1) + 1)] W (RetN n.natAbs W)) := ⟨fun W => by rw [show -(n + 1) + 1 = ((n.natAbs : Nat) : Int) from by omega]; exact natural_calls _ (ln_two h1 h2) W⟩; have HD := Hd.mk (decide_eq_true hn); go_enter Tryz.func36, Tryz.ntmps36
  go_wp2_with fail
  refine (HC.out _).mono ?_; rintro e w1 ⟨A3, c3, rfl, hn1, hb1⟩; obtain ⟨hc1, hf1⟩ := bcell hb1; have hz1 : w.heap.size < w1.heap.size := by have := hb1.size; simp at this; omega
  have HN := Hd.mk hn1; have HB : Hd (Below w.heap.size w w1) := ⟨bel_then (by repeat (first | exact HB.out | exact Below.refl _ _ | refine below_alloc ?_ _ | refine below_drewN ?_ _ | refine below_drew ?_ | refine below_set ?_ (by first | exact Nat.le_refl _ | omega | (simp; done) | (simp; omega)) _)) hb1⟩; clear hn1 hb1; go_wp2_with fail
  have g0 : w1.cell? ⟨w.heap.size, 0, none⟩ = some (.bool false) := (hc1 _ _ (by simp)).trans (blk_new (W := w) rfl [.bool false, .slice none 0 0] 61).c0; have g1 : w1.cell? ⟨w.heap.size, 1, none⟩ = some (.slice none 0 0) := (hc1 _ _ (by simp)).trans (blk_new (W := w) rfl [.bool false, .slice none 0 0] 61).c1; obtain ⟨k0, k1, k2⟩ := two_set g0 g1 (.bool true) (.slice A3 (ln n.natAbs) c3); refine bodyPost_ret (v := .agg #[.bool true, .slice A3 (ln n.natAbs) c3]) (by simp [results, Tryz.results36, go_sem, k0, k1]) rfl ?_; exact ⟨A3, c3, by rw [HD.out], (HN.out.set_ g0 (by intro t; simp) _).set_ k2 (by intro t; simp) _, by repeat (first | exact HB.out | exact Below.refl _ _ | refine below_alloc ?_ _ | refine below_drewN ?_ _ | refine below_drew ?_ | refine below_set ?_ (by first | exact Nat.le_refl _ | omega | (simp; done) | (simp; omega)) _)⟩
 have HC : Hd (∀ W, Calls Tryz.prog 54 #[.int .u64 n] W (RetN n.natAbs W)) := ⟨fun W => by have := natural_calls n.natAbs (ln_two h1 h2) W; rwa [show ((n.natAbs : Nat) : Int) = n from by omega] at this⟩; have HD := Hd.mk (decide_eq_false hn); go_enter Tryz.func36, Tryz.ntmps36
 go_wp2_with fail
 refine (HC.out _).mono ?_; rintro e w1 ⟨A3, c3, rfl, hn1, hb1⟩; obtain ⟨hc1, hf1⟩ := bcell hb1; have hz1 : w.heap.size < w1.heap.size := by have := hb1.size; simp at this; omega
 have HN := Hd.mk hn1; have HB : Hd (Below w.heap.size w w1) := ⟨bel_then (by repeat (first | exact HB.out | exact Below.refl _ _ | refine below_alloc ?_ _ | refine below_drewN ?_ _ | refine below_drew ?_ | refine below_set ?_ (by first | exact Nat.le_refl _ | omega | (simp; done) | (simp; omega)) _)) hb1⟩; clear hn1 hb1; go_wp2_with fail
 have g0 : w1.cell? ⟨w.heap.size, 0, none⟩ = some (.bool false) := (hc1 _ _ (by simp)).trans (blk_new (W := w) rfl [.bool false, .slice none 0 0] 61).c0; have g1 : w1.cell? ⟨w.heap.size, 1, none⟩ = some (.slice none 0 0) := (hc1 _ _ (by simp)).trans (blk_new (W := w) rfl [.bool false, .slice none 0 0] 61).c1; obtain ⟨k0, k1, k2⟩ := two_set g0 g1 (.bool false) (.slice A3 (ln n.natAbs) c3); refine bodyPost_ret (v := .agg #[.bool false, .slice A3 (ln n.natAbs) c3]) (by simp [results, Tryz.results36, go_sem, k0, k1]) rfl ?_; exact ⟨A3, c3, by rw [HD.out], (HN.out.set_ g0 (by intro t; simp) _).set_ k2 (by intro t; simp) _, by repeat (first | exact HB.out | exact Below.refl _ _ | refine below_alloc ?_ _ | refine below_drewN ?_ _ | refine below_drew ?_ | refine below_set ?_ (by first | exact Nat.le_refl _ | omega | (simp; done) | (simp; omega)) _)⟩
set_option maxRecDepth 100000 in
theorem ofInt_calls (n : Int) (w : World) (h1 : -9223372036854775808 ≤ n) (h2 : n ≤ 9223372036854775807) :
  Calls Tryz.prog 48 #[.int .i64 n] w (RetZ n w) := by
 have hB : n.natAbs / B < B := by unfold B; omega
 by_cases hn : n < 0
 ·have HC : Hd (∀ W, Calls Tryz.prog 47 #[.int .u64 (IntKind.u64.wrap (-IntKind.u64.wrap n))] W (RetN n.natAbs W)) := ⟨fun W => by rw [wrap_neg h1 hn]; exact small_calls _ hB W⟩; have HD := Hd.mk (decide_eq_true hn); clear hB; go_enter Tryz.func48, Tryz.ntmps48
  go_wp2_with fail
  refine (HC.out _).mono ?_; rintro e w1 ⟨A3, c3, rfl, hn1, hb1⟩; obtain ⟨hc1, hf1⟩ := bcell hb1; have hz1 : w.heap.size < w1.heap.size := by have := hb1.size; simp at this; omega
  have HN := Hd.mk hn1; have HB : Hd (Below w.heap.size w w1) := ⟨bel_then (by repeat (first | exact HB.out | exact Below.refl _ _ | refine below_alloc ?_ _ | refine below_drewN ?_ _ | refine below_drew ?_ | refine below_set ?_ (by first | exact Nat.le_refl _ | omega | (simp; done) | (simp; omega)) _)) hb1⟩; clear hn1 hb1; go_wp2_with fail
  have g0 : w1.cell? ⟨w.heap.size, 0, none⟩ = some (.bool false) := (hc1 _ _ (by simp)).trans (blk_new (W := w) rfl [.bool false, .slice none 0 0] 51).c0; have g1 : w1.cell? ⟨w.heap.size, 1, none⟩ = some (.slice none 0 0) := (hc1 _ _ (by simp)).trans (blk_new (W := w) rfl [.bool false, .slice none 0 0] 51).c1; obtain ⟨k0, k1, k2⟩ := two_set g0 g1 (.bool true) (.slice A3 (ln n.natAbs) c3); refine bodyPost_ret (v := .agg #[.bool true, .slice A3 (ln n.natAbs) c3]) (by simp [results, Tryz.results48, go_sem, k0, k1]) rfl ?_; exact ⟨A3, c3, by rw [HD.out], (HN.out.set_ g0 (by intro t; simp) _).set_ k2 (by intro t; simp) _, by repeat (first | exact HB.out | exact Below.refl _ _ | refine below_alloc ?_ _ | refine below_drewN ?_ _ | refine below_drew ?_ | refine below_set ?_ (by first | exact Nat.le_refl _ | omega | (simp; done) | (simp; omega)) _)⟩
 have HC : Hd (∀ W, Calls Tryz.prog 47 #[.int .u64 n] W (RetN n.natAbs W)) := ⟨fun W => by have := small_calls n.natAbs hB W; rwa [show ((n.natAbs : Nat) : Int) = n from by omega] at this⟩; have HD := Hd.mk (decide_eq_false hn); clear hB; go_enter Tryz.func48, Tryz.ntmps48
 go_wp2_with fail
 refine (HC.out _).mono ?_; rintro e w1 ⟨A3, c3, rfl, hn1, hb1⟩; obtain ⟨hc1, hf1⟩ := bcell hb1; have hz1 : w.heap.size < w1.heap.size := by have := hb1.size; simp at this; omega
 have HN := Hd.mk hn1; have HB : Hd (Below w.heap.size w w1) := ⟨bel_then (by repeat (first | exact HB.out | exact Below.refl _ _ | refine below_alloc ?_ _ | refine below_drewN ?_ _ | refine below_drew ?_ | refine below_set ?_ (by first | exact Nat.le_refl _ | omega | (simp; done) | (simp; omega)) _)) hb1⟩; clear hn1 hb1; go_wp2_with fail
 have g0 : w1.cell? ⟨w.heap.size, 0, none⟩ = some (.bool false) := (hc1 _ _ (by simp)).trans (blk_new (W := w) rfl [.bool false, .slice none 0 0] 51).c0; have g1 : w1.cell? ⟨w.heap.size, 1, none⟩ = some (.slice none 0 0) := (hc1 _ _ (by simp)).trans (blk_new (W := w) rfl [.bool false, .slice none 0 0] 51).c1; obtain ⟨k0, k1, k2⟩ := two_set g0 g1 (.bool false) (.slice A3 (ln n.natAbs) c3); refine bodyPost_ret (v := .agg #[.bool false, .slice A3 (ln n.natAbs) c3]) (by simp [results, Tryz.results48, go_sem, k0, k1]) rfl ?_; exact ⟨A3, c3, by rw [HD.out], (HN.out.set_ g0 (by intro t; simp) _).set_ k2 (by intro t; simp) _, by repeat (first | exact HB.out | exact Below.refl _ _ | refine below_alloc ?_ _ | refine below_drewN ?_ _ | refine below_drew ?_ | refine below_set ?_ (by first | exact Nat.le_refl _ | omega | (simp; done) | (simp; omega)) _)⟩
set_option maxRecDepth 100000 in
theorem FromInt_calls (n : Int) (w : World) (h1 : -9223372036854775808 ≤ n) (h2 : n ≤ 9223372036854775807) :
  Calls Tryz.prog 20 #[.int .i64 n] w (RetZ n w) := by
 have hl := ln_two h1 h2; have HO := Hd.mk (fun W => ofInt_calls n W h1 h2); have HV := Hd.mk (fun A c W h => value_calls n A c W h (by omega)); obtain ⟨b, hb⟩ : ∃ b, b = decide (n < 0) := ⟨_, rfl⟩; rw [← hb] at HV; have HBB := Hd.mk hb; clear hb; go_enter Tryz.func20, Tryz.ntmps20
 go_wp2_with fail
 refine (HO.out _).mono ?_; rintro e w0 ⟨A2, c2, rfl, hn0, hb0⟩; rw [← HBB.out]; have HN0 := Hd.mk hn0; have HB0 := Hd.mk hb0; clear hn0 hb0; go_wp2_with fail
 refine (HV.out _ _ _ HN0.out).mono ?_; rintro e w1 ⟨A3, c3, rfl, hn1, hb1⟩; rw [← HBB.out]; have HB1 := Hd.mk (bel_then HB0.out hb1); have HN := Hd.mk hn1; obtain ⟨hc1, hf1⟩ := bcell HB1.out; have hz1 : w.heap.size < w1.heap.size := by have := HB1.out.size; simp at this; omega
 have HB : Hd (Below w.heap.size w w1) := ⟨bel_then (by repeat (first | exact HB.out | exact Below.refl _ _ | refine below_alloc ?_ _ | refine below_drewN ?_ _ | refine below_drew ?_ | refine below_set ?_ (by first | exact Nat.le_refl _ | omega | (simp; done) | (simp; omega)) _)) HB1.out⟩; clear hn1 hb1; go_wp2_with fail
 have g0 : w1.cell? ⟨w.heap.size, 0, none⟩ = some (.bool false) := (hc1 _ _ (by simp)).trans (blk_new (W := w) rfl [.bool false, .slice none 0 0] 24).c0; have g1 : w1.cell? ⟨w.heap.size, 1, none⟩ = some (.slice none 0 0) := (hc1 _ _ (by simp)).trans (blk_new (W := w) rfl [.bool false, .slice none 0 0] 24).c1; obtain ⟨k0, k1, k2⟩ := two_set g0 g1 (.bool b) (.slice A3 (ln n.natAbs) c3); refine bodyPost_ret (v := .agg #[.bool b, .slice A3 (ln n.natAbs) c3]) (by simp [results, Tryz.results20, go_sem, k0, k1]) rfl ?_; exact ⟨A3, c3, by rw [HBB.out], (HN.out.set_ g0 (by intro t; simp) _).set_ k2 (by intro t; simp) _, by repeat (first | exact HB.out | exact Below.refl _ _ | refine below_alloc ?_ _ | refine below_drewN ?_ _ | refine below_drew ?_ | refine below_set ?_ (by first | exact Nat.le_refl _ | omega | (simp; done) | (simp; omega)) _)⟩
end Go.Proofs.YtdfhhceboacdcaaGreatDoor
set_option linter.unusedVariables false
namespace Go.Proofs.YtdfhhceboacdcaaGreatDoor
open Go.RowKit
def inInt (z : Int) : Prop := -9223372036854775808 ≤ z ∧ z ≤ 9223372036854775807
instance (z : Int) : Decidable (inInt z) := by unfold inInt; exact inferInstance
theorem or_words (a x : Nat) (ha : a < 4294967296) (hx : x < 4294967296) : bits .or .u64 (a : Int) ((x : Int) * 4294967296) = ((a + 4294967296 * x : Nat) : Int) := by
 have e : ((x : Int) * 4294967296) = ((4294967296 * x : Nat) : Int) := by omega
 rw [e, u64_or_nat _ _ (by omega) (by omega)]; have := Nat.two_pow_add_eq_or_of_lt (i := 32) ha x; rw [Nat.add_comm, Nat.or_comm]; congr 1
 exact this.symm
theorem shr_digit (n k s : Nat) (hs : s < 32) : ((dig n).getD k 0 + (dig n).getD (k + 1) 0 * 4294967296) / 2 ^ s % 4294967296 = n / 2 ^ s / B ^ k % 4294967296 := by
 obtain ⟨h1, h2⟩ := pow_r hs; rw [dig_getD, dig_getD, Nat.div_div_eq_div_mul n, Nat.mul_comm (2 ^ s) (B ^ k), ← Nat.div_div_eq_div_mul n, Nat.pow_succ, ← Nat.div_div_eq_div_mul n]; generalize n / B ^ k = m; show (m % 4294967296 + m / 4294967296 % 4294967296 * 4294967296) / 2 ^ s % 4294967296 = m / 2 ^ s % 4294967296
 have e : m = (m % 4294967296 + m / 4294967296 % 4294967296 * 4294967296) + 2 ^ s * (2 ^ (32 - s) * 4294967296 * (m / 4294967296 / 4294967296)) := by
  rw [← Nat.mul_assoc, ← Nat.mul_assoc, h1]; omega
 conv => rhs; rw [e]
 rw [Nat.add_mul_div_left _ _ h2, Nat.mul_assoc, Nat.mul_left_comm, Nat.add_mul_mod_self_left]
set_option maxHeartbeats 1000000 in
set_option maxRecDepth 100000 in
theorem shr_calls (A1 : Option Addr) (c1 n s : Nat) (w : World) (h1 : NN w A1 c1 n) (l1 : ln n ≤ 536870912) (hs : s < 32) :
  Calls Tryz.prog 97 #[.slice A1 (ln n) c1, .int .i64 (s : Int)] w (RetN (n / 2 ^ s) w) := by
 have HX := Hd.mk h1; have hlc := h1.2.1; have hcm := h1.2.2; clear h1; have hsq : (s : Int) / 32 = 0 := by omega
 have hsr : (s : Int) % 32 = (s : Int) := by omega
 by_cases h0 : n = 0
 ·subst h0; rw [ln_zero, Nat.zero_div]; go_enter Tryz.func97, Tryz.ntmps97
  go_wp2
  go_ret
  exact ⟨none, 0, by rw [ln_zero]; rfl, NN.nil _ _ _ (by omega), Below.refl _ _⟩
 have hlp : 0 < ln n := ln_pos.2 (by omega); have hl0 : ¬ ln n = 0 := by omega
 have hc0 : ¬ c1 = 0 := by omega
 obtain ⟨ad, rfl, _⟩ := HX.out.at_ hlp; have hmk := fun W => make_words 49 Tryz.underlying49 (ln n : Int) (ln n) (by omega) (by omega) W
 clear h0; go_enter Tryz.func97, Tryz.ntmps97
 go_wp2
 clear hmk; go_loopw [22] (fun s22 wr => ∃ (k : Nat) (ds : List Nat), k ≤ ln n ∧ s22 = .int .i64 k ∧ ds.length = k ∧ Dg ds ∧ val ds = n / 2 ^ s % B ^ k ∧ Blk wr w.heap.size 46 (cells (ds ++ List.replicate (ln n - k) 0)) ∧ Below w.heap.size w wr) (fun s _ => ln n - (intOf s).toNat)
 case atStart => exact ⟨0, [], Nat.zero_le _, rfl, rfl, (fun x hx => by cases hx), by simp [val, Nat.mod_one], heap_alloc_new w _, below_alloc (Below.refl _ _) _⟩
 case round =>
  obtain ⟨k, ds, hk, rfl, hdl, hdd, hval, hblk, hbel⟩ := hrel; have HV := Hd.mk hval; have HK := Hd.mk hblk; have HL := Hd.mk hdl; have HB := Hd.mk hbel; have HDD := Hd.mk hdd; clear hval hblk hdl hbel hdd; by_cases hkl : k < ln n
  ·obtain ⟨a1, ha1, hcell1⟩ := (HX.out.to HB.out).at_ hkl; cases ha1
   obtain ⟨x, hx⟩ : ∃ x, x = (dig n).getD k 0 := ⟨_, rfl⟩; have hx1 : x < 4294967296 := by rw [hx]; exact dg_get (dg_dig _) k
   rw [← hx] at hcell1; obtain ⟨y, hy⟩ : ∃ y, y = (dig n).getD (k + 1) 0 := ⟨_, rfl⟩; have hy1 : y < 4294967296 := by rw [hy]; exact dg_get (dg_dig _) _
   have hck := HK.out.at_ (i := k) (by rw [List.length_append, HL.out, List.length_replicate]; omega); have hfz := HK.out.frozen k; have hsd := shr_digit n k s hs; rw [← hx, ← hy] at hsd; obtain ⟨t, ht⟩ : ∃ t, t = x + y * 4294967296 := ⟨_, rfl⟩; rw [← ht] at hsd; obtain ⟨t2, ht2⟩ : ∃ t2, t2 = t / 2 ^ s := ⟨_, rfl⟩; have ht2l : t2 ≤ t := by rw [ht2]; exact Nat.div_le_self _ _
   rw [← ht2] at hsd; obtain ⟨d, hd⟩ : ∃ d, d = t2 % 4294967296 := ⟨_, rfl⟩; have hdl : d < B := by rw [hd]; exact Nat.mod_lt _ (by decide)
   have hput := HK.out.put k d; rw [show k = ds.length from HL.out.symm, set_next ds _ _ (by have := HL.out; omega), HL.out] at hput
   have hnew : val (ds ++ [d]) = n / 2 ^ s % B ^ (k + 1) := by
    rw [val_snoc, HL.out, HV.out, Nat.mod_pow_succ, hd, hsd]; rfl
   have e0 : bits .or .u64 (x : Int) ((y : Int) * 4294967296) = (t : Int) := by
    rw [or_words x y hx1 hy1, ht, Nat.mul_comm]
   have e1 : (t : Int) / 2 ^ s = (t2 : Int) := by
    rw [ht2]; simp
   have e2 : (t2 : Int) % 4294967296 = (d : Int) := by omega
   have hyt : (y : Int) * 4294967296 ≤ 18446744073709551615 := by omega
   have htl : t ≤ 18446744073709551615 := by omega
   have HN := Hd.mk hnew; have HP := Hd.mk hput; have HXT := Hd.mk (show k + 1 ≥ ln n → t = x by intro h; rw [ht, hy, getD_zero_of_le (by rw [dig_length]; exact h)]; omega); by_cases hk1 : k + 1 < ln n
   ·obtain ⟨a2, ha2, hcell2⟩ := (HX.out.to HB.out).at_ hk1; cases ha2
    rw [← hy] at hcell2; simp only [Addr.add_succ'] at hcell2; have hk1' : (k : Int) + 1 < (ln n : Int) := by omega
    clear hx hy ht ht2 hd hsd hput hnew; go_wp2_with fail
    go_roundw
    case rel => exact ⟨k + 1, ds ++ [d], by omega, by go_num, by rw [List.length_append, HL.out]; rfl, dg_append HDD.out (dg_one hdl), HN.out, by rw [Nat.sub_add_eq]; exact HP.out, below_set HB.out (Nat.le_refl _) _⟩
    case measure => simp [intOf]; omega
   have htx := HXT.out (by omega); have hk1' : ¬ (k : Int) + 1 < (ln n : Int) := by omega
   have e1' : (x : Int) / 2 ^ s = (t2 : Int) := by rw [← htx]; exact e1
   clear hx hy ht ht2 hd hsd hput hnew e0 e1 htx HXT; go_wp2_with fail
   go_roundw
   case rel => exact ⟨k + 1, ds ++ [d], by omega, by go_num, by rw [List.length_append, HL.out]; rfl, dg_append HDD.out (dg_one hdl), HN.out, by rw [Nat.sub_add_eq]; exact HP.out, below_set HB.out (Nat.le_refl _) _⟩
   case measure => simp [intOf]; omega
  have hke : k = ln n := by omega
  subst hke
  have hv2 : val ds = n / 2 ^ s := by
   rw [HV.out, Nat.mod_eq_of_lt (Nat.lt_of_le_of_lt (Nat.div_le_self _ _) (lt_pow_ln n))]
  have hblk : Blk wr w.heap.size 46 (cells ds) := by
   have := HK.out; rwa [Nat.sub_self, List.replicate_zero, List.append_nil] at this
  have hc := norm_calls (some ⟨w.heap.size, 0, none⟩) (ln n) ds _ hblk.reads HDD.out (by have := HL.out; omega) (by omega); have hrn := hblk.reads.of_take HDD.out; rw [HL.out, hv2] at hc; rw [hv2] at hrn; have hfin : ln (n / 2 ^ s) ≤ ln n := ln_mono (Nat.div_le_self _ _); have HC := Hd.mk hc; have HRN := Hd.mk hrn; clear hv2 hc hrn hblk; go_wp2_with (first | (go_at_call 78; refine HC.out.mono ?_; rintro e w' ⟨rfl, rfl⟩))
  go_ret
  exact ⟨_, _, rfl, ⟨HRN.out, hfin, by omega⟩, HB.out⟩
theorem run_min2_int (k k' : IntKind) (x y : Int) : Builtin.min2 (.int k x) (.int k' y) = pure (.int k (if y < x then y else x)) := by simp only [Builtin.min2]
theorem run_min_two (ats : Array TypeId) (ty : TypeId) (a b : Value) : Builtin.min_ ats ty #[a, b] = (Builtin.min2 a b >>= fun s => pure s) := by simp only [Builtin.min_, List.foldlM_cons, List.foldlM_nil]
theorem Blk.readsP {w : World} {g : Nat} {t : TypeId} {us : List Nat} {post : List Value} (h : Blk w g t (cells us ++ post)) : RN w (some ⟨g, 0, none⟩) us := fun _ => ⟨_, rfl, fun j hj => by
 have := h.cell j; rw [List.getElem?_append_left (by rw [cells_length]; exact hj), cells_get us hj] at this; rw [← this]
 have e : (⟨g, 0, none⟩ : Addr).add j = ⟨g, j, none⟩ := by
  unfold Addr.add; split
  ·next h => rw [h]
  simp
 rw [e]⟩
theorem Blk.atP {w : World} {g : Nat} {t : TypeId} {us : List Nat} {post : List Value} (h : Blk w g t (cells us ++ post)) {i : Nat} (hi : i < us.length) : w.cell? ⟨g, i, none⟩ = some (.int .u32 ((us.getD i 0 : Nat) : Int)) := by
 rw [h.cell, List.getElem?_append_left (by rw [cells_length]; exact hi), cells_get us hi]
theorem own_block {w : World} {base : Nat} {e : TypeId} {v : Value} {n : Nat} {xs : List Value} (h : w.ownsRow base e 1 v n xs) (hn : 0 < n) : ∃ g cap post, v = .slice (some ⟨g, 0, none⟩) n cap ∧ base ≤ g ∧ n ≤ cap ∧ cap ≤ 9223372036854775807 ∧ Blk w g e (xs ++ post) ∧ g < w.heap.size := by
 rcases h.2 with ⟨rfl, h0⟩ | ⟨g, cap, cur, rfl, hg, hh, hnc, hcm, hcs, htk⟩
 ·omega
 have hb : Blk w g e (xs ++ cur.toList.drop n) := by
  have e1 : xs ++ cur.toList.drop n = cur.toList := by
   rw [← htk, Nat.mul_one, List.take_append_drop]
  unfold Blk; rw [e1]; simpa using hh
 exact ⟨g, cap, cur.toList.drop n, rfl, hg, hnc, by unfold maxLen at hcm; omega, hb, hb.lt⟩
theorem long_begin {a b y s : Nat} (hy : y = (dig b).getD (ln b - 1) 0) (hb : b ≠ 0) (hs : s = 32 - nbits y) (hab : ln b ≤ ln a) :
  y < 4294967296 ∧ 1 ≤ nbits y ∧ nbits y ≤ 32 ∧ b * 2 ^ s < B ^ ln b ∧ ln (b * 2 ^ s) = ln b ∧ a * 2 ^ s < (b * 2 ^ s) * B ^ (ln a - ln b + 1) ∧ ln (a * 2 ^ s) ≤ ln a + 1 ∧ ln a ≤ ln (a * 2 ^ s) ∧ 0 < b * 2 ^ s := by
 have hlp : 0 < ln b := ln_pos.2 (by omega); have hyl : y < 4294967296 := by rw [hy]; exact dg_get (dg_dig b) _
 have hy0 : y ≠ 0 := by rw [hy]; exact dig_last b _ (by rw [dig_length]; omega)
 have h1 : nbits y ≤ 32 := nbits_le.2 hyl; have h0 : 1 ≤ nbits y := by unfold nbits; rw [if_neg hy0]; omega
 have hhi := nbits_hi y; have hlo := nbits_lo hy0
 have e32 : 2 ^ nbits y * 2 ^ s = 4294967296 := by
  rw [← Nat.pow_add, hs, show nbits y + (32 - nbits y) = 32 from by omega]
 have e31 : 2 ^ (nbits y - 1) * 2 ^ s = 2147483648 := by
  rw [← Nat.pow_add, hs, show nbits y - 1 + (32 - nbits y) = 31 from by omega]
 have hsp : 0 < 2 ^ s := Nat.pow_pos (by decide)
 have hs31 : 2 ^ s ≤ 2147483648 := by
  have : 2 ^ s ≤ 2 ^ 31 := Nat.pow_le_pow_right (by decide) (by omega); simpa using this
 have hbv : b = val ((dig b).take (ln b - 1)) + B ^ (ln b - 1) * y := by
  have h2 := val_take_next (dig b) (ln b - 1); rw [show ln b - 1 + 1 = ln b from by omega, List.take_of_length_le (show (dig b).length ≤ ln b from Nat.le_refl _), val_dig, ← hy] at h2; exact h2
 have hbt := val_lt (dg_take (dg_dig b) (ln b - 1)); rw [List.length_take, Nat.min_eq_left (by rw [dig_length]; omega)] at hbt
 have eB : B ^ ln b = B ^ (ln b - 1) * 4294967296 := by
  rw [show (4294967296 : Nat) = B from rfl, ← Nat.pow_succ]; congr 1
  omega
 have hv1 : b * 2 ^ s < B ^ ln b := by
  have h2 : b < B ^ (ln b - 1) * (y + 1) := by rw [Nat.mul_add]; omega
  have h3 : b * 2 ^ s < B ^ (ln b - 1) * (y + 1) * 2 ^ s := Nat.mul_lt_mul_of_pos_right h2 hsp; have h4 : (y + 1) * 2 ^ s ≤ 4294967296 := by rw [← e32]; exact Nat.mul_le_mul_right _ hhi
  have h5 : B ^ (ln b - 1) * ((y + 1) * 2 ^ s) ≤ B ^ (ln b - 1) * 4294967296 := Nat.mul_le_mul_left _ h4; rw [Nat.mul_assoc] at h3; omega
 have hv2 : B ^ (ln b - 1) * 2147483648 ≤ b * 2 ^ s := by
  have h2 : B ^ (ln b - 1) * y ≤ b := by omega
  have h3 : B ^ (ln b - 1) * y * 2 ^ s ≤ b * 2 ^ s := Nat.mul_le_mul_right _ h2; have h4 : 2147483648 ≤ y * 2 ^ s := by rw [← e31]; exact Nat.mul_le_mul_right _ hlo
  have h5 : B ^ (ln b - 1) * 2147483648 ≤ B ^ (ln b - 1) * (y * 2 ^ s) := Nat.mul_le_mul_left _ h4; rw [Nat.mul_assoc] at h3; omega
 have hal := lt_pow_ln a; have hge : b ≤ b * 2 ^ s := Nat.le_mul_of_pos_right _ hsp; have hge2 : a ≤ a * 2 ^ s := Nat.le_mul_of_pos_right _ hsp; refine ⟨hyl, h0, h1, hv1, Nat.le_antisymm (ln_le hv1) (ln_mono hge), ?_, ?_, ln_mono hge2, by omega⟩
 ·have h2 : a * 2 ^ s < B ^ ln a * 2 ^ s := Nat.mul_lt_mul_of_pos_right hal hsp; have h3 : B ^ ln a * 2 ^ s ≤ B ^ ln a * 2147483648 := Nat.mul_le_mul_left _ hs31; have h4 : B ^ (ln b - 1) * 2147483648 * B ^ (ln a - ln b + 1) ≤ (b * 2 ^ s) * B ^ (ln a - ln b + 1) := Nat.mul_le_mul_right _ hv2
  have h5 : B ^ (ln b - 1) * 2147483648 * B ^ (ln a - ln b + 1) = B ^ ln a * 2147483648 := by
   rw [Nat.mul_right_comm, ← Nat.pow_add]; congr 2
   omega
  omega
 apply ln_le; rw [Nat.pow_succ]; have h2 : a * 2 ^ s < B ^ ln a * 2 ^ s := Nat.mul_lt_mul_of_pos_right hal hsp; have h3 : B ^ ln a * 2 ^ s ≤ B ^ ln a * B := Nat.mul_le_mul_left _ (by unfold B; omega); omega
theorem long_end {a b s Q R : Nat} (h : a * 2 ^ s = b * 2 ^ s * Q + R) (hR : R < b * 2 ^ s) : Q = a / b ∧ R / 2 ^ s = a % b := by
 have hsp : 0 < 2 ^ s := Nat.pow_pos (by decide)
 have hb : 0 < b := by
  rcases Nat.eq_zero_or_pos b with h0 | h0
  ·rw [h0] at hR; omega
  exact h0
 have e1 : a * 2 ^ s / (b * 2 ^ s) = a / b := Nat.mul_div_mul_right _ _ hsp; have e2 : a * 2 ^ s % (b * 2 ^ s) = a % b * 2 ^ s := Nat.mul_mod_mul_right _ _ _
 have h1 : a * 2 ^ s / (b * 2 ^ s) = Q := by
  rw [h, Nat.mul_add_div (by omega), Nat.div_eq_of_lt hR, Nat.add_zero]
 have h2 : a * 2 ^ s % (b * 2 ^ s) = R := by
  rw [h, Nat.mul_add_mod, Nat.mod_eq_of_lt hR]
 refine ⟨by rw [← h1, e1], ?_⟩; rw [← h2, e2, Nat.mul_div_cancel _ hsp]
structure Digit (us : List Nat) (v j n x2 x1 x0 v1 v2 top W : Nat) : Prop where
 x2l : x2 < 4294967296
 x1l : x1 < 4294967296
 x0l : x0 < 4294967296
 v1l : v1 < 4294967296
 v2l : v2 < 4294967296
 v1p : 0 < v1
 topl : top ≤ 18446744073709551615
 init : W / v ≤ min (top / v1) 4294967295
 step : ∀ g rest, g * v1 + rest = top → W / v ≤ g → rest * 4294967296 + x0 < g * v2 → 1 ≤ g ∧ W / v ≤ g - 1
 fix : ∀ g rest, g * v1 + rest = top → W / v ≤ g → g < 4294967296 → (4294967296 ≤ rest ∨ g * v2 ≤ rest * 4294967296 + x0) → (W < g * v → 1 ≤ g ∧ (g - 1) * v ≤ W ∧ W < (g - 1) * v + v) ∧ (¬ W < g * v → W < g * v + v)
theorem digit_of {us : List Nat} {N v j n la : Nat} {qs : List Nat} {x2 x1 x0 v1 v2 top : Nat} (hn : 2 ≤ n) (hl : us.length = la + 1) (hd : Dg us) (hjn : j + n ≤ la) (hv : v < B ^ n) (hvn : ln v = n) (hL : Long N v (j + 1) us qs) (h2 : x2 = us.getD (j + n) 0) (h1 : x1 = us.getD (j + n - 1) 0) (h0 : x0 = us.getD (j + n - 2) 0) (hv1 : v1 = (dig v).getD (n - 1) 0) (hv2 : v2 = (dig v).getD (n - 2) 0) (ht : top = x2 * 4294967296 + x1) :
    Digit us v j n x2 x1 x0 v1 v2 top (val ((us.drop j).take (n + 1))) := by
  obtain ⟨m, rfl⟩ : ∃ m, n = m + 2 := ⟨n - 2, by omega⟩; obtain ⟨e1, e2, e3⟩ := long_high hl hd hv hL.2 (by omega); have hsl : ((us.drop j).take (m + 2 + 1)).length = m + 3 := by rw [List.length_take, List.length_drop]; omega
  obtain ⟨s1, s2⟩ := top_three (xs := (us.drop j).take (m + 2 + 1)) (m := m) hsl (dg_take (dg_drop hd j) _)
  have hg : ∀ i, i < m + 3 → ((us.drop j).take (m + 2 + 1)).getD i 0 = us.getD (j + i) 0 := by
    intro i hi; rw [List.getD_eq_getElem?_getD, List.getElem?_take, if_pos (by omega), List.getElem?_drop, List.getD_eq_getElem?_getD]
  rw [hg (m + 2) (by omega), hg (m + 1) (by omega), hg m (by omega)] at s1; rw [show j + (m + 2) - 1 = j + (m + 1) from by omega] at h1; rw [show j + (m + 2) - 2 = j + m from by omega] at h0; rw [show m + 2 - 1 = m + 1 from by omega] at hv1; rw [show m + 2 - 2 = m from by omega] at hv2; have hdl : (dig v).length = m + 2 := hvn; obtain ⟨t1, t2⟩ := top_two (xs := dig v) (m := m) hdl (dg_dig v); rw [val_dig, ← hv1, ← hv2] at t1; rw [← h2, ← h1, ← h0] at s1; have hx2 : x2 < B := by rw [h2]; exact dg_get hd _
  have hx1 : x1 < B := by rw [h1]; exact dg_get hd _
  have hx0 : x0 < B := by rw [h0]; exact dg_get hd _
  have hv1l : v1 < B := by rw [hv1]; exact dg_get (dg_dig v) _
  have hv2l : v2 < B := by rw [hv2]; exact dg_get (dg_dig v) _
  have hv1p : 0 < v1 := by
    have := dig_last v (m + 1) (by rw [hdl]); rw [hv1]; omega
  have ht' : x2 * B + x1 = top := ht.symm; rw [ht'] at s1
  exact { x2l := hx2, x1l := hx1, x0l := hx0, v1l := hv1l, v2l := hv2l, v1p := hv1p,
          topl := by unfold B at hx2 hx1; omega,
          init := kn_init t1 s1 s2 hx0 hv1p e3,
          step := fun g rest a b c => kn_step t1 s1 s2 a b c,
          fix := fun g rest a b c d => kn_fix t1 s1 t2 hv1p c b (kn_exit a hv2l c d) }
theorem seg_split {us : List Nat} {j n : Nat} {post : List Value} : cells us ++ post = cells (us.take j) ++ (cells ((us.drop j).take (n + 1)) ++ (cells ((us.drop j).drop (n + 1)) ++ post)) := by
 rw [← List.append_assoc (cells ((us.drop j).take (n + 1))), ← cells_append, List.take_append_drop, ← List.append_assoc, ← cells_append, List.take_append_drop]
theorem seg_join {us ds : List Nat} {j n : Nat} {post : List Value} : cells (us.take j) ++ (cells ds ++ (cells ((us.drop j).drop (n + 1)) ++ post)) = cells (us.take j ++ (ds ++ (us.drop j).drop (n + 1))) ++ post := by
 rw [cells_append, cells_append, List.append_assoc, List.append_assoc]
theorem dg_join {us ds : List Nat} {j n : Nat} (h : Dg us) (hd : Dg ds) : Dg (us.take j ++ (ds ++ (us.drop j).drop (n + 1))) := dg_append (dg_take h j) (dg_append hd (dg_drop (dg_drop h j) _))
theorem len_join {us ds : List Nat} {j n la : Nat} (h : us.length = la + 1) (hd : ds.length = n + 1) (hj : j + n ≤ la) : (us.take j ++ (ds ++ (us.drop j).drop (n + 1))).length = la + 1 := by
 rw [List.length_append, List.length_append, List.length_take, List.length_drop, List.length_drop]; omega
theorem fit_yes {W q v L d : Nat} (h : ¬ W < q * v) (e : d + q * v = W + (if W < q * v then B ^ L else 0)) (hb : W < q * v + v) : W = q * v + d ∧ d < v := by
 rw [if_neg h] at e; omega
theorem fit_no {W q v L d d2 : Nat} (h : W < q * v) (e : d + q * v = W + (if W < q * v then B ^ L else 0)) (h1 : 1 ≤ q) (h2 : (q - 1) * v ≤ W) (h3 : W < (q - 1) * v + v) (hv : v < B ^ L) (e2 : d2 = (d + v) % B ^ L) : W = (q - 1) * v + d2 ∧ d2 < v := by
 rw [if_pos h] at e
 have e3 : (q - 1) * v + v = q * v := by
  rw [← Nat.succ_mul]; congr 1
  omega
 have e4 : d + v = (W - (q - 1) * v) + B ^ L := by omega
 rw [e4, Nat.add_mod_right, Nat.mod_eq_of_lt (by omega)] at e2; omega
end Go.Proofs.YtdfhhceboacdcaaGreatDoor
