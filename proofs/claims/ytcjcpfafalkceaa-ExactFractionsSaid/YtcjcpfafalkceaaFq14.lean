/- Part 14 of the texts behind this claim. -/
import Derived.Deep.CutBlock
import Derived.Test.YtcjcpfafalkceaaFq12
import Derived.Test.YtcjcpfafalkceaaFq13
set_option linter.unusedVariables false
namespace Go.Proofs.Ytcjcpfafalkceaa
open Go.RowKit
theorem only_setCell {a w : World} {g : Nat} (h : a.grownBy w (some g)) {p : Addr} (hp : p.block = g) (u : Value) : a.grownBy (w.setCell p u) (some g) :=
  ⟨h.os, h.tape, h.output, by simpa [World.setCell] using h.size, fun i hi hne => (Below.heap_setCell w p u i (by
    rintro rfl
    exact hne (by rw [hp]))).trans (h.block i hi hne)⟩
def Far (A : Option Addr) (g : Nat) : Prop := ∀ ad, A = some ad → ad.block ≠ g
theorem RN.only {w w' : World} {A : Option Addr} {xs : List Nat} {g : Nat} (h : RN w A xs) (hg : w.grownBy w' (some g)) (hA : Far A g) : RN w' A xs := fun hn => by
  obtain ⟨ad, e, hc⟩ := h hn
  refine ⟨ad, e, fun j hj => ?_⟩
  have h1 := hc j hj
  rw [← h1]
  have hlt := World.block_lt_of_cell? w _ h1
  refine World.cell?_of_block (hg.block _ hlt (fun h2 => ?_))
  rw [block_add] at h2
  exact hA ad e (Option.some.inj h2)
theorem NN.only {w w' : World} {A : Option Addr} {c n g : Nat} (h : NN w A c n) (hg : w.grownBy w' (some g)) (hA : Far A g) : NN w' A c n := ⟨h.1.only hg hA, h.2⟩
theorem Blk.only {w w' : World} {g g' : Nat} {t : TypeId} {cs : List Value} (h : Blk w g' t cs) (hg : w.grownBy w' (some g)) (hne : g' ≠ g) : Blk w' g' t cs :=
  (hg.block g' h.lt (fun e => hne (Option.some.inj e))).trans h
theorem seg_get {pre : List Value} {us : List Nat} {post : List Value} {j i : Nat} (hj : pre.length = j) (hi : i < us.length) : (pre ++ (cells us ++ post))[j + i]? = some (.int .u32 ((us.getD i 0 : Nat) : Int)) := by
  rw [List.getElem?_append_right (by omega), hj, Nat.add_sub_cancel_left, List.getElem?_append_left (by rw [cells_length]; exact hi), cells_get us hi]
theorem seg_set {pre : List Value} {us : List Nat} {post : List Value} {j i x : Nat} (hj : pre.length = j) (hi : i < us.length) : (pre ++ (cells us ++ post)).set (j + i) (.int .u32 ((x : Nat) : Int)) = pre ++ (cells (us.set i x) ++ post) := by
  rw [List.set_append_right _ _ (by omega), hj, Nat.add_sub_cancel_left, List.set_append_left _ _ (by rw [cells_length]; exact hi), cells_set]
theorem over_next {ds us : List Nat} {k : Nat} (hl : ds.length = k) (hk : k < us.length) (x : Nat) : (ds ++ us.drop k).set k x = (ds ++ [x]) ++ us.drop (k + 1) := by
  rw [List.set_append_right _ _ (by omega), hl, Nat.sub_self, List.drop_eq_getElem_cons hk, List.set_cons_zero]
  simp
theorem over_get {ds us : List Nat} {k : Nat} (hl : ds.length = k) (hk : k < us.length) : (ds ++ us.drop k).getD k 0 = us.getD k 0 := by
  rw [List.getD_eq_getElem?_getD, List.getElem?_append_right (by omega), hl, Nat.sub_self, List.getElem?_drop, List.getD_eq_getElem?_getD, Nat.add_zero]
theorem take_step {ds : List Nat} {k c bw u y g U V : Nat} (hl : ds.length = k) (hu : u < 4294967296) (hb : bw ≤ 1) (h : val ds + g * V = U + B ^ k * c + B ^ k * bw) :
    val (ds ++ [(4294967296 + u - (g * y + c) % 4294967296 - bw) % 4294967296]) + g * (V + B ^ k * y) = (U + B ^ k * u) + B ^ (k + 1) * ((g * y + c) / 4294967296) + B ^ (k + 1) * (if u < (g * y + c) % 4294967296 + bw then 1 else 0) := by
  have hx : (g * y + c) % 4294967296 < 4294967296 := Nat.mod_lt _ (by decide)
  have e := sub_digit hu hx hb
  have e0 : B ^ k * ((g * y + c) % 4294967296) + B ^ k * (B * ((g * y + c) / 4294967296)) = B ^ k * (g * y) + B ^ k * c := by
    rw [← Nat.mul_add, ← Nat.mul_add]
    congr 1
    exact Nat.mod_add_div _ _
  generalize (4294967296 + u - (g * y + c) % 4294967296 - bw) % 4294967296 = d at e ⊢
  generalize (if u < (g * y + c) % 4294967296 + bw then 1 else 0 : Nat) = z at e ⊢
  generalize (g * y + c) % 4294967296 = x at e e0 ⊢
  generalize (g * y + c) / 4294967296 = c2 at e0 ⊢
  rw [val_snoc, hl, Nat.pow_succ, Nat.mul_assoc, Nat.mul_assoc, Nat.mul_add, Nat.mul_left_comm g]
  have e2 : B ^ k * (d + x + bw) = B ^ k * (u + B * z) := by rw [e]; rfl
  rw [Nat.mul_add, Nat.mul_add, Nat.mul_add] at e2
  omega
def RetTake (us : List Nat) (q L gB : Nat) (pre post : List Value) (w : World) (e : Ending) (w' : World) : Prop := e = .returned (.bool (decide (val us < q))) ∧ ∃ ds : List Nat, ds.length = L ∧ Dg ds ∧ val ds + q = val us + (if val us < q then B ^ L else 0) ∧ Blk w' gB 72 (pre ++ (cells ds ++ post)) ∧ w.grownBy w' (some gB)
set_option maxHeartbeats 2000000 in
set_option maxRecDepth 100000 in
theorem take_calls (gB j L cu : Nat) (pre post : List Value) (us : List Nat) (A2 : Option Addr) (c2 v g : Nat) (w : World) (hp : pre.length = j) (hu : us.length = L) (hdu : Dg us) (hBk : Blk w gB 72 (pre ++ (cells us ++ post))) (h2 : NN w A2 c2 v) (hA : Far A2 gB) (hL : L ≤ 1073741824) (hj : j ≤ 1073741824) (hcu : L ≤ cu) (hlv : ln v < L) (hg : g < 4294967296) :
    Calls Try.prog 126 #[.slice (some ⟨gB, j, none⟩) L cu, .slice A2 (ln v) c2, .int .u32 (g : Int)] w (RetTake us (g * v) L gB pre post w) := by
  have HY := Hd.mk h2
  have HK0 := Hd.mk hBk
  have HP := Hd.mk hp
  have HU := Hd.mk hu
  have HDU := Hd.mk hdu
  have HA := Hd.mk hA
  clear h2 hBk hp hu hdu hA
  go_enter Try.func126, Try.ntmps126
  go_wp2
  go_loopw [7, 8, 14] (fun s7 s8 s14 wr => ∃ (k c bw : Nat) (ds : List Nat), k ≤ L ∧ s14 = .int .i64 k ∧ s7 = .int .u64 (c : Int) ∧ s8 = .int .u32 (bw : Int) ∧ c < 4294967296 ∧ bw ≤ 1 ∧ (ln v < k → c = 0) ∧ ds.length = k ∧ Dg ds ∧ val ds + g * val ((dig v).take k) = val (us.take k) + B ^ k * c + B ^ k * bw ∧ Blk wr gB 72 (pre ++ (cells (ds ++ us.drop k) ++ post)) ∧ w.grownBy wr (some gB)) (fun _ _ s _ => L - (intOf s).toNat)
  case atStart => exact ⟨0, 0, 0, [], Nat.zero_le _, rfl, rfl, rfl, by omega, by omega, fun _ => rfl, rfl, (fun x hx => by cases hx), by simp [val], HK0.out, World.grownBy.refl _ _⟩
  case round =>
    obtain ⟨k, c, bw, ds, hk, rfl, rfl, rfl, hc, hbw, hc0, hdl, hdd, hval, hblk, hgr⟩ := hrel
    have HV := Hd.mk hval
    have HK := Hd.mk hblk
    have HL := Hd.mk hdl
    have HG := Hd.mk hgr
    have HDD := Hd.mk hdd
    have HC0 := Hd.mk hc0
    clear hval hblk hdl hgr hdd hc0
    by_cases hkl : k < L
    · have hkl2 : (ds ++ us.drop k).length = L := by rw [List.length_append, List.length_drop, HL.out, HU.out]; omega
      have hck : wr.cell? ⟨gB, j + k, none⟩ = some (.int .u32 ((us.getD k 0 : Nat) : Int)) := by
        rw [HK.out.cell, seg_get HP.out (by omega), over_get HL.out (by have := HU.out; omega)]
      have hfz := HK.out.frozen (j + k)
      obtain ⟨u, huq⟩ : ∃ u, u = us.getD k 0 := ⟨_, rfl⟩
      have hul : u < 4294967296 := by rw [huq]; exact dg_get HDU.out k
      rw [← huq] at hck
      obtain ⟨y, hy⟩ : ∃ y, y = (dig v).getD k 0 := ⟨_, rfl⟩
      have hyl : y < 4294967296 := by rw [hy]; exact dg_get (dg_dig v) k
      have hstep := take_step (ds := ds) (k := k) (c := c) (bw := bw) (u := u) (y := y) (g := g) HL.out hul hbw HV.out
      rw [huq, ← val_take_next, hy, ← val_take_next, ← hy, ← huq] at hstep
      obtain ⟨hf1, hf2, hf3⟩ := mul_fits (x := g) (y := y) (o := 0) (c := c) hg hyl (by omega) hc
      rw [Nat.add_zero] at hf2 hf3
      obtain ⟨p, hpq⟩ : ∃ p, p = g * y := ⟨_, rfl⟩
      rw [← hpq] at hf1 hf2 hf3 hstep
      obtain ⟨x, hx⟩ : ∃ x, x = (p + c) % 4294967296 := ⟨_, rfl⟩
      obtain ⟨c3, hc3⟩ : ∃ c3, c3 = (p + c) / 4294967296 := ⟨_, rfl⟩
      have hxl : x < 4294967296 := by omega
      rw [← hc3] at hf3
      rw [← hx, ← hc3] at hstep
      have hput := HK.out.set_ (j + k) (.int .u32 (((4294967296 + u - x - bw) % 4294967296 : Nat) : Int))
      rw [seg_set HP.out (by omega), over_next HL.out (by have := HU.out; omega)] at hput
      have HS := Hd.mk (fun W => sub32_calls u x bw hul hxl hbw W)
      have hb1 : (if u < x + bw then 1 else 0 : Nat) ≤ 1 := by split <;> omega
      obtain ⟨b2, hb2⟩ : ∃ b2 : Nat, b2 = (if u < x + bw then 1 else 0 : Nat) := ⟨_, rfl⟩
      obtain ⟨dd, hdd2⟩ : ∃ dd : Nat, dd = (4294967296 + u - x - bw) % 4294967296 := ⟨_, rfl⟩
      have hddl : dd < B := by rw [hdd2]; exact Nat.mod_lt _ (by decide)
      rw [← hb2, ← hdd2] at hstep HS
      rw [← hb2] at hb1
      rw [← hdd2] at hput
      have e1 : ((p : Int) + (c : Int)) % 4294967296 = (x : Int) := by omega
      have e2 : ((p : Int) + (c : Int)) / 4294967296 = (c3 : Int) := by omega
      have e3 : (g : Int) * (y : Int) = (p : Int) := by rw [hpq]; exact (Int.natCast_mul g y).symm
      have hf2' : (p : Int) + (c : Int) ≤ 18446744073709551615 := by omega
      have HST := Hd.mk hstep
      have HPT := Hd.mk hput
      by_cases hkq : k < ln v
      · obtain ⟨a2, rfl, hcell2⟩ := (HY.out.only HG.out HA.out).at_ hkq
        rw [← hy] at hcell2
        have HC3 : Hd (ln v < k + 1 → c3 = 0) := ⟨fun h => by omega⟩
        clear hstep hput hb2 hdd2 hpq hx hc3 huq hy hkl2
        go_wp2_with (first | (go_at_call 136; refine (HS.out _).mono ?_; rintro e w' ⟨rfl, rfl⟩))
        go_roundw
        case rel => exact ⟨k + 1, c3, b2, ds ++ [dd], by omega, by go_num, by first | rfl | rw [e2], rfl, hf3, hb1, HC3.out, by rw [List.length_append, HL.out]; rfl, dg_append HDD.out (dg_one hddl), HST.out, HPT.out, only_setCell HG.out rfl _⟩
        case measure => simp [intOf]; omega
      · have hy0 : y = 0 := by rw [hy]; exact getD_zero_of_le (by unfold ln at hkq; omega)
        have hp0 : p = 0 := by rw [hpq, hy0]; rfl
        have hxc : x = c := by omega
        have hc30 : c3 = 0 := by omega
        have e4 : (c : Int) % 4294967296 = (c : Int) := by omega
        rw [hxc] at HS
        rw [hc30] at HST
        clear hstep hput hb2 hdd2 hpq hx hc3 huq hy hkl2 hy0 hp0 e1 e2 e3 hxc
        go_wp2_with (first | (go_at_call 136; refine (HS.out _).mono ?_; rintro e w' ⟨rfl, rfl⟩))
        go_roundw
        case rel => exact ⟨k + 1, 0, b2, ds ++ [dd], by omega, by go_num, rfl, rfl, by omega, hb1, fun _ => rfl, by rw [List.length_append, HL.out]; rfl, dg_append HDD.out (dg_one hddl), HST.out, HPT.out, only_setCell HG.out rfl _⟩
        case measure => simp [intOf]; omega
    · have hke : k = L := by omega
      subst hke
      have hcz := HC0.out hlv
      have hv := HV.out
      rw [hcz, List.take_of_length_le (show us.length ≤ k by have := HU.out; omega), List.take_of_length_le (show (dig v).length ≤ k by rw [dig_length]; omega), val_dig] at hv
      have hdlt := val_lt HDD.out
      rw [HL.out] at hdlt
      have hblk : Blk wr gB 72 (pre ++ (cells ds ++ post)) := by
        have := HK.out
        rwa [List.drop_eq_nil_of_le (by have := HU.out; omega), List.append_nil] at this
      have HKK := Hd.mk hblk
      have hcase : decide (val us < g * v) = decide (bw ≠ 0) ∧ val ds + g * v = val us + (if val us < g * v then B ^ k else 0) := by
        rcases Nat.lt_or_ge bw 1 with h | h
        · have : bw = 0 := by omega
          subst this
          have hn : ¬ val us < g * v := by omega
          rw [if_neg hn]
          exact ⟨by simp [hn], by omega⟩
        · have : bw = 1 := by omega
          subst this
          have hn : val us < g * v := by omega
          rw [if_pos hn]
          exact ⟨by simp [hn], by omega⟩
      have HCS := Hd.mk hcase
      clear hcase hv hblk hdlt hcz
      go_wp2_with fail
      go_ret
      refine ⟨?_, ds, HL.out, HDD.out, HCS.out.2, HKK.out, HG.out⟩
      rw [HCS.out.1]
      exact ret_bool (by rw [Bool.eq_iff_iff]; simp; try omega)
def RetGive (us : List Nat) (q L gB : Nat) (pre post : List Value) (w : World) (e : Ending) (w' : World) : Prop := e = .returned (.tuple #[]) ∧ ∃ ds : List Nat, ds.length = L ∧ Dg ds ∧ val ds = (val us + q) % B ^ L ∧ Blk w' gB 72 (pre ++ (cells ds ++ post)) ∧ w.grownBy w' (some gB)
set_option maxHeartbeats 2000000 in
set_option maxRecDepth 100000 in
theorem give_calls (gB j L cu : Nat) (pre post : List Value) (us : List Nat) (A2 : Option Addr) (c2 v : Nat) (w : World) (hp : pre.length = j) (hu : us.length = L) (hdu : Dg us) (hBk : Blk w gB 72 (pre ++ (cells us ++ post))) (h2 : NN w A2 c2 v) (hA : Far A2 gB) (hL : L ≤ 1073741824) (hj : j ≤ 1073741824) (hcu : L ≤ cu) (hlv : ln v ≤ L) :
    Calls Try.prog 127 #[.slice (some ⟨gB, j, none⟩) L cu, .slice A2 (ln v) c2] w (RetGive us v L gB pre post w) := by
  have HY := Hd.mk h2
  have HK0 := Hd.mk hBk
  have HP := Hd.mk hp
  have HU := Hd.mk hu
  have HDU := Hd.mk hdu
  have HA := Hd.mk hA
  clear h2 hBk hp hu hdu hA
  go_enter Try.func127, Try.ntmps127
  go_wp2
  go_loopw [4, 9] (fun s4 s9 wr => ∃ (k cy : Nat) (ds : List Nat), k ≤ L ∧ s9 = .int .i64 k ∧ s4 = .int .u32 (cy : Int) ∧ cy ≤ 1 ∧ ds.length = k ∧ Dg ds ∧ val ds + B ^ k * cy = val (us.take k) + val ((dig v).take k) ∧ Blk wr gB 72 (pre ++ (cells (ds ++ us.drop k) ++ post)) ∧ w.grownBy wr (some gB)) (fun _ s _ => L - (intOf s).toNat)
  case atStart => exact ⟨0, 0, [], Nat.zero_le _, rfl, rfl, by omega, rfl, (fun x hx => by cases hx), by simp [val], HK0.out, World.grownBy.refl _ _⟩
  case round =>
    obtain ⟨k, cy, ds, hk, rfl, rfl, hcy, hdl, hdd, hval, hblk, hgr⟩ := hrel
    have HV := Hd.mk hval
    have HK := Hd.mk hblk
    have HL := Hd.mk hdl
    have HG := Hd.mk hgr
    have HDD := Hd.mk hdd
    clear hval hblk hdl hgr hdd
    by_cases hkl : k < L
    · have hkl2 : (ds ++ us.drop k).length = L := by rw [List.length_append, List.length_drop, HL.out, HU.out]; omega
      have hck : wr.cell? ⟨gB, j + k, none⟩ = some (.int .u32 ((us.getD k 0 : Nat) : Int)) := by
        rw [HK.out.cell, seg_get HP.out (by omega), over_get HL.out (by have := HU.out; omega)]
      have hfz := HK.out.frozen (j + k)
      obtain ⟨u, huq⟩ : ∃ u, u = us.getD k 0 := ⟨_, rfl⟩
      have hul : u < 4294967296 := by rw [huq]; exact dg_get HDU.out k
      rw [← huq] at hck
      obtain ⟨y, hy⟩ : ∃ y, y = (dig v).getD k 0 := ⟨_, rfl⟩
      have hyl : y < 4294967296 := by rw [hy]; exact dg_get (dg_dig v) k
      have hstep := add_step (ds := ds) (k := k) (cy := cy) (a := u) (b := y) HL.out HV.out
      rw [huq, ← val_take_next, hy, ← val_take_next, ← hy, ← huq] at hstep
      have hput := HK.out.set_ (j + k) (.int .u32 (((u + y + cy) % 4294967296 : Nat) : Int))
      rw [seg_set HP.out (by omega), over_next HL.out (by have := HU.out; omega)] at hput
      have HS := Hd.mk (fun W => add32_calls u y cy hul hyl hcy W)
      obtain ⟨b2, hb2⟩ : ∃ b2 : Nat, b2 = (u + y + cy) / 4294967296 := ⟨_, rfl⟩
      have hb1 : b2 ≤ 1 := by omega
      obtain ⟨dd, hdd2⟩ : ∃ dd : Nat, dd = (u + y + cy) % 4294967296 := ⟨_, rfl⟩
      have hddl : dd < B := by rw [hdd2]; exact Nat.mod_lt _ (by decide)
      rw [← hb2, ← hdd2] at hstep HS
      rw [← hdd2] at hput
      have HST := Hd.mk hstep
      have HPT := Hd.mk hput
      by_cases hkq : k < ln v
      · obtain ⟨a2, rfl, hcell2⟩ := (HY.out.only HG.out HA.out).at_ hkq
        rw [← hy] at hcell2
        clear hstep hput hb2 hdd2 huq hy hkl2
        go_wp2_with (first | (go_at_call 120; refine (HS.out _).mono ?_; rintro e w' ⟨rfl, rfl⟩))
        go_roundw
        case rel => exact ⟨k + 1, b2, ds ++ [dd], by omega, by go_num, rfl, hb1, by rw [List.length_append, HL.out]; rfl, dg_append HDD.out (dg_one hddl), HST.out, HPT.out, only_setCell HG.out rfl _⟩
        case measure => simp [intOf]; omega
      · have hy0 : y = 0 := by rw [hy]; exact getD_zero_of_le (by unfold ln at hkq; omega)
        rw [hy0] at HS
        clear hstep hput hb2 hdd2 huq hy hkl2 hy0
        go_wp2_with (first | (go_at_call 120; refine (HS.out _).mono ?_; rintro e w' ⟨rfl, rfl⟩))
        go_roundw
        case rel => exact ⟨k + 1, b2, ds ++ [dd], by omega, by go_num, rfl, hb1, by rw [List.length_append, HL.out]; rfl, dg_append HDD.out (dg_one hddl), HST.out, HPT.out, only_setCell HG.out rfl _⟩
        case measure => simp [intOf]; omega
    · have hke : k = L := by omega
      subst hke
      have hv := HV.out
      rw [List.take_of_length_le (show us.length ≤ k by have := HU.out; omega), List.take_of_length_le (show (dig v).length ≤ k by rw [dig_length]; omega), val_dig] at hv
      have hdlt := val_lt HDD.out
      rw [HL.out] at hdlt
      have hblk : Blk wr gB 72 (pre ++ (cells ds ++ post)) := by
        have := HK.out
        rwa [List.drop_eq_nil_of_le (by have := HU.out; omega), List.append_nil] at this
      have HKK := Hd.mk hblk
      have HVV : Hd (val ds = (val us + v) % B ^ k) := ⟨by rw [← hv, Nat.add_mul_mod_self_left, Nat.mod_eq_of_lt hdlt]⟩
      clear hv hblk hdlt
      go_wp2_with fail
      refine bodyPost_ret (v := .tuple #[]) (by simp [results, Try.results127, go_sem]) rfl ?_
      exact ⟨rfl, ds, HL.out, HDD.out, HVV.out, HKK.out, HG.out⟩
end Go.Proofs.Ytcjcpfafalkceaa
set_option linter.unusedVariables false
namespace Go.Proofs.Ytcjcpfafalkceaa
open Go.RowKit
set_option maxHeartbeats 1000000 in
set_option maxRecDepth 100000 in
theorem wcmp_calls (x y : Int) (A1 : Option Addr) (c1 : Nat) (A2 : Option Addr) (c2 : Nat) (w : World) (h1 : NN w A1 c1 x.natAbs) (h2 : NN w A2 c2 y.natAbs) :
    Calls Try.prog 74 #[.agg #[.bool (decide (x < 0)), .slice A1 (ln x.natAbs) c1], .agg #[.bool (decide (y < 0)), .slice A2 (ln y.natAbs) c2]] w fun e w' => e = .returned (.int .i64 (sgnv (x - y))) ∧ Below w.heap.size w w' := by
  have HC1 := Hd.mk (fun W (hW : Below w.heap.size w W) => cmp_calls A1 c1 x.natAbs A2 c2 y.natAbs W (h1.to hW) (h2.to hW))
  have HC2 := Hd.mk (fun W (hW : Below w.heap.size w W) => cmp_calls A2 c2 y.natAbs A1 c1 x.natAbs W (h2.to hW) (h1.to hW))
  clear h1 h2
  by_cases hx : x < 0
  · by_cases hy : y < 0
    · have e : cmpv y.natAbs x.natAbs = sgnv (x - y) := by unfold cmpv sgnv; split <;> split <;> (try split) <;> omega
      rw [e] at HC2
      obtain ⟨v, hv⟩ : ∃ v, v = sgnv (x - y) := ⟨_, rfl⟩
      rw [← hv] at HC2 ⊢
      rw [decide_eq_true hx, decide_eq_true hy]
      clear e hv hx hy
      go_enter Try.func74, Try.ntmps74
      go_wp2_with fail
      obtain ⟨W0, hW0⟩ : ∃ W : World, W = (w.alloc (.cells #[.bool true, .slice A1 (ln x.natAbs) c1] 70)).alloc (.cells #[.bool true, .slice A2 (ln y.natAbs) c2] 70) := ⟨_, rfl⟩
      rw [← hW0]
      have HSZ : Hd (w.heap.size + 1 + 1 = W0.heap.size) := ⟨by rw [hW0]; simp⟩
      obtain ⟨hB0, hB1, hBW⟩ := boxes2 hW0
      have q0 := hB0.c0
      have q1 := hB0.c1
      have q2 := hB1.c0
      have q3 := hB1.c1
      have Q0 := Hd.mk hB0
      have Q1 := Hd.mk hB1
      have HW := Hd.mk hBW
      have HB : Hd (Below W0.heap.size W0 W0) := ⟨Below.refl _ _⟩
      clear hB0 hB1 hBW hW0
      refine (HC2.out _ HW.out).mono ?_
      rintro e w' ⟨rfl, q, rfl⟩
      go_wp2_with fail
      go_ret
      exact ⟨rfl, (by repeat (first | exact bel_then HW.out HB.out | refine below_set ?_ (by first | exact Nat.le_refl _ | omega | (simp; done) | (simp; omega)) _ | refine below_alloc ?_ _ | refine below_drewN ?_ _ | refine below_drew ?_))⟩
    · have e : sgnv (x - y) = -1 := if_pos (by omega)
      rw [e, decide_eq_true hx, decide_eq_false hy]
      clear e hx hy
      go_enter Try.func74, Try.ntmps74
      go_wp2
      go_ret
      exact ⟨rfl, by repeat (first | exact HB.out | exact Below.refl _ _ | refine below_alloc ?_ _ | refine below_drewN ?_ _ | refine below_drew ?_ | refine below_set ?_ (by first | exact Nat.le_refl _ | omega | (simp; done) | (simp; omega)) _)⟩
  · by_cases hy : y < 0
    · have e : sgnv (x - y) = 1 := by unfold sgnv; rw [if_neg (by omega), if_neg (by omega)]
      rw [e, decide_eq_false hx, decide_eq_true hy]
      clear e hx hy
      go_enter Try.func74, Try.ntmps74
      go_wp2
      go_ret
      exact ⟨rfl, by repeat (first | exact HB.out | exact Below.refl _ _ | refine below_alloc ?_ _ | refine below_drewN ?_ _ | refine below_drew ?_ | refine below_set ?_ (by first | exact Nat.le_refl _ | omega | (simp; done) | (simp; omega)) _)⟩
    · have e : cmpv x.natAbs y.natAbs = sgnv (x - y) := by unfold cmpv sgnv; split <;> split <;> (try split) <;> omega
      rw [e] at HC1
      obtain ⟨v, hv⟩ : ∃ v, v = sgnv (x - y) := ⟨_, rfl⟩
      rw [← hv] at HC1 ⊢
      rw [decide_eq_false hx, decide_eq_false hy]
      clear e hv hx hy
      go_enter Try.func74, Try.ntmps74
      go_wp2_with fail
      obtain ⟨W0, hW0⟩ : ∃ W : World, W = (w.alloc (.cells #[.bool false, .slice A1 (ln x.natAbs) c1] 70)).alloc (.cells #[.bool false, .slice A2 (ln y.natAbs) c2] 70) := ⟨_, rfl⟩
      rw [← hW0]
      have HSZ : Hd (w.heap.size + 1 + 1 = W0.heap.size) := ⟨by rw [hW0]; simp⟩
      obtain ⟨hB0, hB1, hBW⟩ := boxes2 hW0
      have q0 := hB0.c0
      have q1 := hB0.c1
      have q2 := hB1.c0
      have q3 := hB1.c1
      have Q0 := Hd.mk hB0
      have Q1 := Hd.mk hB1
      have HW := Hd.mk hBW
      have HB : Hd (Below W0.heap.size W0 W0) := ⟨Below.refl _ _⟩
      clear hB0 hB1 hBW hW0
      refine (HC1.out _ HW.out).mono ?_
      rintro e w' ⟨rfl, q, rfl⟩
      go_wp2_with fail
      go_ret
      exact ⟨rfl, (by repeat (first | exact bel_then HW.out HB.out | refine below_set ?_ (by first | exact Nat.le_refl _ | omega | (simp; done) | (simp; omega)) _ | refine below_alloc ?_ _ | refine below_drewN ?_ _ | refine below_drew ?_))⟩
theorem dig_aw : dig (val [0, 0, 1]) = [0, 0, 1] := by
  refine dig_val (fun x hx => ?_) (fun k hk => ?_)
  · simp at hx
    rcases hx with rfl | rfl <;> decide
  · have : k = 2 := by simp at hk; omega
    subst this
    decide
theorem ln_aw : ln (val [0, 0, 1]) = 3 := by unfold ln; rw [dig_aw]; rfl
def awz : Int := ((val [0, 0, 1] : Nat) : Int)
theorem awz_ln : ln awz.natAbs = 3 := by unfold awz; rw [Int.natAbs_natCast, ln_aw]
theorem awz_nonneg : decide (awz < 0) = false := decide_eq_false (by unfold awz; omega)
theorem awz_opz (A : Option Addr) (c : Nat) : opz ⟨false, A, c, [0, 1]⟩ ⟨false, A, c, [0, 1]⟩ (Raw.val ⟨false, A, c, [0, 1]⟩ * Raw.val ⟨false, A, c, [0, 1]⟩) = awz ∧ ope ⟨false, A, c, [0, 1]⟩ ⟨false, A, c, [0, 1]⟩ (Raw.val ⟨false, A, c, [0, 1]⟩ * Raw.val ⟨false, A, c, [0, 1]⟩) = 0 := by
  have e : Raw.val ⟨false, A, c, [0, 1]⟩ * Raw.val ⟨false, A, c, [0, 1]⟩ = awz := by
    unfold Raw.val awz
    simp [val, B]
  have ho : Raw.ok ⟨false, A, c, [0, 1]⟩ = true := rfl
  rw [e]
  unfold opz ope fitz fite
  rw [ho, awz_ln]
  exact ⟨rfl, rfl⟩
theorem awz_nn {w : World} {g : Nat} {t : TypeId} (h : Blk w g t (cells [0, 0, 1])) : NN w (some ⟨g, 0, none⟩) 3 awz.natAbs := by
  have e : awz.natAbs = val [0, 0, 1] := by unfold awz; rw [Int.natAbs_natCast]
  rw [e]
  exact ⟨by rw [dig_aw]; exact h.reads, by rw [ln_aw]; exact Nat.le_refl _, by omega⟩
set_option maxRecDepth 100000 in
theorem awake_calls (w : World) : Calls Try.prog 17 #[] w fun e w' => e = .returned (.bool true) ∧ Below w.heap.size w w' := by
  go_enter Try.func17, Try.ntmps17
  go_wp2_with fail
  obtain ⟨W0, hW0⟩ : ∃ W : World, W = (w.alloc (.cells #[.int .u32 0, .int .u32 1] 72)).alloc (.cells #[.bool false, .slice (some ⟨w.heap.size, 0, none⟩) 2 2] 24) := ⟨_, rfl⟩
  rw [← hW0]
  obtain ⟨hB0, hB1, hBW⟩ := boxes2 hW0
  have HB1 := Hd.mk hB1
  have HW := Hd.mk hBW
  have ha : Raw.at_ ⟨false, some ⟨w.heap.size, 0, none⟩, 2, [0, 1]⟩ W0 := ⟨Blk.reads (ds := [0, 1]) hB0, by intro x hx; simp at hx; rcases hx with rfl | rfl <;> decide, Nat.le_refl _, by show (2 : Nat) ≤ 9223372036854775807; omega⟩
  have hm := Mul_calls _ _ W0 ha ha
  rw [(awz_opz _ _).1, (awz_opz _ _).2] at hm
  have HM : Hd (Calls Try.prog _ #[.agg #[.bool false, .slice (some ⟨w.heap.size, 0, none⟩) 2 2], .agg #[.bool false, .slice (some ⟨w.heap.size, 0, none⟩) 2 2]] W0 (RetZE awz 0 W0)) := ⟨hm⟩
  clear hW0 hB0 hB1 hBW ha hm
  refine HM.out.mono ?_
  rintro e w1 ⟨A4, c4, rfl, hn4, hb1⟩
  have HS := Hd.mk (fun W g (hW : Below w1.heap.size w1 W) (hB : Blk W g 72 (cells [0, 0, 1])) => same_calls awz awz A4 c4 (some ⟨g, 0, none⟩) 3 W (hn4.to hW) (awz_nn hB))
  rw [awz_ln, awz_nonneg] at HS
  rw [awz_ln, awz_nonneg]
  have HBB := Hd.mk (bel_then HW.out hb1)
  clear hn4 hb1 HM
  go_wp2_with fail
  refine (HS.out _ _ (by repeat (first | exact Below.refl _ _ | refine below_alloc ?_ _ | refine below_set ?_ (by first | exact Nat.le_refl _ | omega | (simp; done) | (simp; omega)) _)) (blk_new (by simp) _ _)).mono ?_
  rintro e w2 ⟨rfl, hb2⟩
  have HB2 := Hd.mk hb2
  clear hb2
  go_wp2_with fail
  go_ret
  refine ⟨by simp, bel_then HBB.out ?_⟩
  refine bel_then ?_ HB2.out
  repeat (first | exact Below.refl _ _ | refine below_alloc ?_ _ | refine below_set ?_ (by first | exact Nat.le_refl _ | omega | (simp; done) | (simp; omega)) _)
end Go.Proofs.Ytcjcpfafalkceaa
set_option linter.unusedVariables false
namespace Go.Proofs.Ytcjcpfafalkceaa
open Go.RowKit
theorem run_fld_whole (b s : Value) (W : World) : (Instr.field 70 (.agg #[b, s]) 1).run Try.prog W = .ok s W := by
  simp [Instr.field, run_underlying Try.underlying70, asAgg, go_sem]
theorem run_fld_Z (b s : Value) (W : World) : (Instr.field 38 (.agg #[b, s]) 1).run Try.prog W = .ok s W := by
  simp [Instr.field, run_underlying Try.underlying38, asAgg, go_sem]
attribute [local go_sem] run_fld_whole run_fld_Z
theorem ln_two {n : Int} (h1 : -9223372036854775808 ≤ n) (h2 : n ≤ 9223372036854775807) : ln n.natAbs ≤ 2 := by
  apply ln_le
  have h3 : B ^ 2 = 18446744073709551616 := by decide
  rw [h3]
  omega
set_option maxRecDepth 100000 in
theorem Whole_calls (n : Int) (w : World) (h1 : -9223372036854775808 ≤ n) (h2 : n ≤ 9223372036854775807) :
    Calls Try.prog 24 #[.int .i64 n] w (RetZ n w) := by
  by_cases hn : n < 0
  · have HC : Hd (∀ W, Calls Try.prog 73 #[.int .u64 (-(n + 1) + 1)] W (RetN n.natAbs W)) := ⟨fun W => by rw [show -(n + 1) + 1 = ((n.natAbs : Nat) : Int) from by omega]; exact natural_calls _ (ln_two h1 h2) W⟩
    have HD := Hd.mk (decide_eq_true hn)
    go_enter Try.func24, Try.ntmps24
    go_wp2_with fail
    refine (HC.out _).mono ?_
    rintro e w1 ⟨A3, c3, rfl, hn1, hb1⟩
    obtain ⟨hc1, hf1⟩ := bcell hb1
    have hz1 : w.heap.size < w1.heap.size := by have := hb1.size; simp at this; omega
    have HN := Hd.mk hn1
    have HB : Hd (Below w.heap.size w w1) := ⟨bel_then (by repeat (first | exact HB.out | exact Below.refl _ _ | refine below_alloc ?_ _ | refine below_drewN ?_ _ | refine below_drew ?_ | refine below_set ?_ (by first | exact Nat.le_refl _ | omega | (simp; done) | (simp; omega)) _)) hb1⟩
    clear hn1 hb1
    go_wp2_with fail
    have g0 : w1.cell? ⟨w.heap.size, 0, none⟩ = some (.bool false) := (hc1 _ _ (by simp)).trans (blk_new (W := w) rfl [.bool false, .slice none 0 0] 38).c0
    have g1 : w1.cell? ⟨w.heap.size, 1, none⟩ = some (.slice none 0 0) := (hc1 _ _ (by simp)).trans (blk_new (W := w) rfl [.bool false, .slice none 0 0] 38).c1
    obtain ⟨k0, k1, k2⟩ := two_set g0 g1 (.bool true) (.slice A3 (ln n.natAbs) c3)
    refine bodyPost_ret (v := .agg #[.bool true, .slice A3 (ln n.natAbs) c3]) (by simp [results, Try.results24, go_sem, k0, k1]) rfl ?_
    exact ⟨A3, c3, by rw [HD.out], (HN.out.set_ g0 (by intro t; simp) _).set_ k2 (by intro t; simp) _, by repeat (first | exact HB.out | exact Below.refl _ _ | refine below_alloc ?_ _ | refine below_drewN ?_ _ | refine below_drew ?_ | refine below_set ?_ (by first | exact Nat.le_refl _ | omega | (simp; done) | (simp; omega)) _)⟩
  · have HC : Hd (∀ W, Calls Try.prog 73 #[.int .u64 n] W (RetN n.natAbs W)) := ⟨fun W => by have := natural_calls n.natAbs (ln_two h1 h2) W; rwa [show ((n.natAbs : Nat) : Int) = n from by omega] at this⟩
    have HD := Hd.mk (decide_eq_false hn)
    go_enter Try.func24, Try.ntmps24
    go_wp2_with fail
    refine (HC.out _).mono ?_
    rintro e w1 ⟨A3, c3, rfl, hn1, hb1⟩
    obtain ⟨hc1, hf1⟩ := bcell hb1
    have hz1 : w.heap.size < w1.heap.size := by have := hb1.size; simp at this; omega
    have HN := Hd.mk hn1
    have HB : Hd (Below w.heap.size w w1) := ⟨bel_then (by repeat (first | exact HB.out | exact Below.refl _ _ | refine below_alloc ?_ _ | refine below_drewN ?_ _ | refine below_drew ?_ | refine below_set ?_ (by first | exact Nat.le_refl _ | omega | (simp; done) | (simp; omega)) _)) hb1⟩
    clear hn1 hb1
    go_wp2_with fail
    have g0 : w1.cell? ⟨w.heap.size, 0, none⟩ = some (.bool false) := (hc1 _ _ (by simp)).trans (blk_new (W := w) rfl [.bool false, .slice none 0 0] 38).c0
    have g1 : w1.cell? ⟨w.heap.size, 1, none⟩ = some (.slice none 0 0) := (hc1 _ _ (by simp)).trans (blk_new (W := w) rfl [.bool false, .slice none 0 0] 38).c1
    obtain ⟨k0, k1, k2⟩ := two_set g0 g1 (.bool false) (.slice A3 (ln n.natAbs) c3)
    refine bodyPost_ret (v := .agg #[.bool false, .slice A3 (ln n.natAbs) c3]) (by simp [results, Try.results24, go_sem, k0, k1]) rfl ?_
    exact ⟨A3, c3, by rw [HD.out], (HN.out.set_ g0 (by intro t; simp) _).set_ k2 (by intro t; simp) _, by repeat (first | exact HB.out | exact Below.refl _ _ | refine below_alloc ?_ _ | refine below_drewN ?_ _ | refine below_drew ?_ | refine below_set ?_ (by first | exact Nat.le_refl _ | omega | (simp; done) | (simp; omega)) _)⟩
end Go.Proofs.Ytcjcpfafalkceaa
set_option linter.unusedVariables false
namespace Go.Proofs.Ytcjcpfafalkceaa
open Go.RowKit
def inInt (z : Int) : Prop := -9223372036854775808 ≤ z ∧ z ≤ 9223372036854775807
instance (z : Int) : Decidable (inInt z) := by unfold inInt; exact inferInstance
theorem or_words (a x : Nat) (ha : a < 4294967296) (hx : x < 4294967296) : bits .or .u64 (a : Int) ((x : Int) * 4294967296) = ((a + 4294967296 * x : Nat) : Int) := by
  have e : ((x : Int) * 4294967296) = ((4294967296 * x : Nat) : Int) := by omega
  rw [e, u64_or_nat _ _ (by omega) (by omega)]
  have := Nat.two_pow_add_eq_or_of_lt (i := 32) ha x
  rw [Nat.add_comm, Nat.or_comm]
  congr 1
  exact this.symm
end Go.Proofs.Ytcjcpfafalkceaa
