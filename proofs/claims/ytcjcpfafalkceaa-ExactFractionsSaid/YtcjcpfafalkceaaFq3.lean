/- Part 3 of the texts behind this claim. -/
import Derived.Maps.AppendAt
import Derived.Deep.AppendLies
import Derived.RegionTactic
import Derived.Laws.OwnMore
import Derived.Test.YtcjcpfafalkceaaFq1
import Derived.Test.YtcjcpfafalkceaaFq2
set_option linter.unusedVariables false
namespace Go.Proofs.Ytcjcpfafalkceaa
open Go.RowKit
set_option maxRecDepth 100000 in
theorem mul_school (A1 : Option Addr) (c1 m : Nat) (A2 : Option Addr) (c2 n : Nat) (w : World) (h1 : NN w A1 c1 m) (h2 : NN w A2 c2 n) (l1 : ln m ≤ 1073741824) (l2 : ln n ≤ 1073741824) (hs : ln m < 40 ∨ ln n < 40) :
    Calls Try.prog 117 #[.slice A1 (ln m) c1, .slice A2 (ln n) c2] w (RetN (m * n) w) := by
  by_cases hlt : ln m < ln n
  · have HX := Hd.mk h2
    have HY := Hd.mk h1
    clear h1 h2
    have hgt := Nat.le_of_not_lt (fun h => by omega : ¬ ln n < ln m)
    have h40 : ln m < 40 := by omega
    have hmk := fun W => make_words 68 Try.underlying68 ((ln n : Int) + (ln m : Int)) (ln n + ln m) (by omega) (by omega) W
    go_enter Try.func117, Try.ntmps117
    go_wp2
    clear hmk
    go_loopw [33] (fun s33 wr => ∃ (i : Nat) (ds : List Nat), i ≤ ln m ∧ s33 = .int .i64 i ∧ ds.length = ln n + ln m ∧ Dg ds ∧ val ds = n * val ((dig m).take i) ∧ (∀ t, i + ln n ≤ t → ds.getD t 0 = 0) ∧ Blk wr w.heap.size 72 (cells ds) ∧ Below w.heap.size w wr) (fun s _ => ln m - (intOf s).toNat)
    case atStart => exact ⟨0, List.replicate (ln n + ln m) 0, Nat.zero_le _, rfl, by simp, dg_zeros _, by rw [val_zeros]; simp [val], fun t _ => getD_zeros _ t, heap_alloc_new w _, below_alloc (Below.refl _ _) _⟩
    case round =>
      obtain ⟨i, ds, hi, rfl, hdl, hdd, hval, hzz, hblk, hbel⟩ := hrel
      have HV := Hd.mk hval
      have HK := Hd.mk hblk
      have HL := Hd.mk hdl
      have HB := Hd.mk hbel
      have HDD := Hd.mk hdd
      have HZZ := Hd.mk hzz
      clear hval hblk hdl hbel hdd hzz
      by_cases hil : i < ln m
      · obtain ⟨a2, rfl, hcell2⟩ := (HY.out.to HB.out).at_ hil
        obtain ⟨x, hx⟩ : ∃ x, x = (dig m).getD i 0 := ⟨_, rfl⟩
        have hx1 : x < 4294967296 := by rw [hx]; exact dg_get (dg_dig _) i
        rw [← hx] at hcell2
        have HXX := Hd.mk hx
        clear hx
        obtain ⟨wo, hwo⟩ : ∃ wo : World, wo = wr := ⟨_, rfl⟩
        subst hwo
        go_wp2_with fail
        go_loopw [8, 40] (fun s8 s40 wr => ∃ (j c : Nat) (es : List Nat), j ≤ ln n ∧ s40 = .int .i64 j ∧ s8 = .int .u64 ((c : Nat) : Int) ∧ c < 4294967296 ∧ es.length = ln n + ln m ∧ Dg es ∧ val es + B ^ (i + j) * c = val ds + B ^ i * (x * val ((dig n).take j)) ∧ (∀ t, i + ln n ≤ t → es.getD t 0 = 0) ∧ Blk wr w.heap.size 72 (cells es) ∧ Below w.heap.size w wr) (fun _ s _ => ln n - (intOf s).toNat)
        case atStart => exact ⟨0, 0, ds, Nat.zero_le _, rfl, rfl, by decide, HL.out, HDD.out, by simp [val], HZZ.out, HK.out, HB.out⟩
        case round =>
          obtain ⟨j, c, es, hj, rfl, rfl, hc, hel, hed, hval, hzz, hblk, hbel⟩ := hrel
          have HV2 := Hd.mk hval
          have HK2 := Hd.mk hblk
          have HL2 := Hd.mk hel
          have HB2 := Hd.mk hbel
          have HDD2 := Hd.mk hed
          have HZZ2 := Hd.mk hzz
          clear hval hblk hel hbel hed hzz
          by_cases hjl : j < ln n
          · obtain ⟨a1, rfl, hcell1⟩ := (HX.out.to HB2.out).at_ hjl
            obtain ⟨y, hy⟩ : ∃ y, y = (dig n).getD j 0 := ⟨_, rfl⟩
            have hy1 : y < 4294967296 := by rw [hy]; exact dg_get (dg_dig _) j
            rw [← hy] at hcell1
            have hck := HK2.out.at_ (i := i + j) (by have := HL2.out; omega)
            have hfz := HK2.out.frozen (i + j)
            have hstep := mul_step (ds := es) (y := y) (by have := HL2.out; omega) HV2.out
            have hput := HK2.out.put (i + j) ((x * y + es.getD (i + j) 0 + c) % 4294967296)
            have ho : es.getD (i + j) 0 < 4294967296 := dg_get HDD2.out (i + j)
            obtain ⟨o, ho'⟩ : ∃ o, o = es.getD (i + j) 0 := ⟨_, rfl⟩
            rw [← ho'] at hck hstep hput ho
            have hfit := mul_fits hx1 hy1 ho hc
            obtain ⟨p, hp⟩ : ∃ p, p = x * y := ⟨_, rfl⟩
            have hp' : (x : Int) * (y : Int) = (p : Int) := by rw [hp]; exact (Int.natCast_mul x y).symm
            rw [← hp] at hfit hstep hput
            obtain ⟨hf1, hf2, hf3⟩ := hfit
            have e1 : (((p + o + c) % 4294967296 : Nat) : Int) = ((p : Int) + (o : Int) + (c : Int)) % 4294967296 := by omega
            have e2 : (((p + o + c) / 4294967296 : Nat) : Int) = ((p : Int) + (o : Int) + (c : Int)) / 4294967296 := by omega
            have e3 : ((i : Int) + (j : Int)).toNat = i + j := by omega
            have HS := Hd.mk hstep
            have HP := Hd.mk hput
            have HYY := Hd.mk hy
            have E1 := Hd.mk e1
            have E2 := Hd.mk e2
            clear hstep hput hy ho' hp e1 e2
            have hw64 : (p : Int) + (o : Int) + (c : Int) ≤ 18446744073709551615 := by omega
            go_wp2_with fail
            go_roundw
            case rel =>
              refine ⟨j + 1, (p + o + c) / 4294967296, es.set (i + j) ((p + o + c) % 4294967296), by omega, by go_num, by rw [E2.out], hf3, by rw [List.length_set]; exact HL2.out, dg_set HDD2.out _ (Nat.mod_lt _ (by decide)), ?_, ?_, ?_, below_set HB2.out (Nat.le_refl _) _⟩
              · rw [val_take_next, ← HYY.out]; exact HS.out
              · intro t ht; rw [getD_set_ne (by omega)]; exact HZZ2.out t ht
              · rw [← E1.out]; exact HP.out
            case measure => simp [intOf]; omega
          · have hje : j = ln n := by omega
            subst hje
            have hck := HK2.out.at_ (i := i + ln n) (by have := HL2.out; omega)
            have hfz := HK2.out.frozen (i + ln n)
            have hput := HK2.out.put (i + ln n) c
            have hz0 := HZZ2.out (i + ln n) (Nat.le_refl _)
            have hvs := val_set (ds := es) (i := i + ln n) (by have := HL2.out; omega) c
            rw [hz0] at hck hvs
            have e3 : ((i : Int) + (ln n : Int)).toNat = i + ln n := by omega
            have hnew : val (es.set (i + ln n) c) = n * val ((dig m).take (i + 1)) := by
              have h1 := HV2.out
              have h2 := HV.out
              rw [val_take_all (Nat.le_refl _)] at h1
              rw [val_take_next, ← HXX.out, Nat.mul_add, ← h2, Nat.mul_left_comm n, Nat.mul_comm n x, ← h1]
              omega
            have HN := Hd.mk hnew
            have HP := Hd.mk hput
            clear hnew hput hvs hz0
            go_wp2_with fail
            go_roundw
            case rel =>
              refine ⟨i + 1, es.set (i + ln n) c, by omega, by go_num, by rw [List.length_set]; exact HL2.out, dg_set HDD2.out _ hc, HN.out, ?_, HP.out, below_set HB2.out (Nat.le_refl _) _⟩
              intro t ht
              rw [getD_set_ne (by omega)]
              exact HZZ2.out t (by omega)
            case measure => simp [intOf]; omega
      · have hie : i = ln m := by omega
        subst hie
        have hv2 : val ds = m * n := by
          rw [HV.out, val_take_all (Nat.le_refl _)]
          try exact Nat.mul_comm _ _
        have hc := norm_calls (some ⟨w.heap.size, 0, none⟩) (ln n + ln m) ds _ HK.out.reads HDD.out (by have := HL.out; omega) (by omega)
        have hrn := HK.out.reads.of_take HDD.out
        rw [HL.out, hv2] at hc
        rw [hv2] at hrn
        have hfin : ln (m * n) ≤ ln n + ln m := Nat.le_trans (ln_mul m n) (by omega)
        have HC := Hd.mk hc
        have HRN := Hd.mk hrn
        clear hv2 hc hrn
        go_wp2_with (first | (go_at_call 121; refine HC.out.mono ?_; rintro e w' ⟨rfl, rfl⟩))
        go_ret
        exact ⟨_, _, rfl, ⟨HRN.out, hfin, by omega⟩, HB.out⟩
  · have HX := Hd.mk h1
    have HY := Hd.mk h2
    clear h1 h2
    have hgt := Nat.le_of_not_lt (fun h => by omega : ¬ ln m < ln n)
    have h40 : ln n < 40 := by omega
    have hmk := fun W => make_words 68 Try.underlying68 ((ln m : Int) + (ln n : Int)) (ln m + ln n) (by omega) (by omega) W
    go_enter Try.func117, Try.ntmps117
    go_wp2
    clear hmk
    go_loopw [33] (fun s33 wr => ∃ (i : Nat) (ds : List Nat), i ≤ ln n ∧ s33 = .int .i64 i ∧ ds.length = ln m + ln n ∧ Dg ds ∧ val ds = m * val ((dig n).take i) ∧ (∀ t, i + ln m ≤ t → ds.getD t 0 = 0) ∧ Blk wr w.heap.size 72 (cells ds) ∧ Below w.heap.size w wr) (fun s _ => ln n - (intOf s).toNat)
    case atStart => exact ⟨0, List.replicate (ln m + ln n) 0, Nat.zero_le _, rfl, by simp, dg_zeros _, by rw [val_zeros]; simp [val], fun t _ => getD_zeros _ t, heap_alloc_new w _, below_alloc (Below.refl _ _) _⟩
    case round =>
      obtain ⟨i, ds, hi, rfl, hdl, hdd, hval, hzz, hblk, hbel⟩ := hrel
      have HV := Hd.mk hval
      have HK := Hd.mk hblk
      have HL := Hd.mk hdl
      have HB := Hd.mk hbel
      have HDD := Hd.mk hdd
      have HZZ := Hd.mk hzz
      clear hval hblk hdl hbel hdd hzz
      by_cases hil : i < ln n
      · obtain ⟨a2, rfl, hcell2⟩ := (HY.out.to HB.out).at_ hil
        obtain ⟨x, hx⟩ : ∃ x, x = (dig n).getD i 0 := ⟨_, rfl⟩
        have hx1 : x < 4294967296 := by rw [hx]; exact dg_get (dg_dig _) i
        rw [← hx] at hcell2
        have HXX := Hd.mk hx
        clear hx
        obtain ⟨wo, hwo⟩ : ∃ wo : World, wo = wr := ⟨_, rfl⟩
        subst hwo
        go_wp2_with fail
        go_loopw [8, 40] (fun s8 s40 wr => ∃ (j c : Nat) (es : List Nat), j ≤ ln m ∧ s40 = .int .i64 j ∧ s8 = .int .u64 ((c : Nat) : Int) ∧ c < 4294967296 ∧ es.length = ln m + ln n ∧ Dg es ∧ val es + B ^ (i + j) * c = val ds + B ^ i * (x * val ((dig m).take j)) ∧ (∀ t, i + ln m ≤ t → es.getD t 0 = 0) ∧ Blk wr w.heap.size 72 (cells es) ∧ Below w.heap.size w wr) (fun _ s _ => ln m - (intOf s).toNat)
        case atStart => exact ⟨0, 0, ds, Nat.zero_le _, rfl, rfl, by decide, HL.out, HDD.out, by simp [val], HZZ.out, HK.out, HB.out⟩
        case round =>
          obtain ⟨j, c, es, hj, rfl, rfl, hc, hel, hed, hval, hzz, hblk, hbel⟩ := hrel
          have HV2 := Hd.mk hval
          have HK2 := Hd.mk hblk
          have HL2 := Hd.mk hel
          have HB2 := Hd.mk hbel
          have HDD2 := Hd.mk hed
          have HZZ2 := Hd.mk hzz
          clear hval hblk hel hbel hed hzz
          by_cases hjl : j < ln m
          · obtain ⟨a1, rfl, hcell1⟩ := (HX.out.to HB2.out).at_ hjl
            obtain ⟨y, hy⟩ : ∃ y, y = (dig m).getD j 0 := ⟨_, rfl⟩
            have hy1 : y < 4294967296 := by rw [hy]; exact dg_get (dg_dig _) j
            rw [← hy] at hcell1
            have hck := HK2.out.at_ (i := i + j) (by have := HL2.out; omega)
            have hfz := HK2.out.frozen (i + j)
            have hstep := mul_step (ds := es) (y := y) (by have := HL2.out; omega) HV2.out
            have hput := HK2.out.put (i + j) ((x * y + es.getD (i + j) 0 + c) % 4294967296)
            have ho : es.getD (i + j) 0 < 4294967296 := dg_get HDD2.out (i + j)
            obtain ⟨o, ho'⟩ : ∃ o, o = es.getD (i + j) 0 := ⟨_, rfl⟩
            rw [← ho'] at hck hstep hput ho
            have hfit := mul_fits hx1 hy1 ho hc
            obtain ⟨p, hp⟩ : ∃ p, p = x * y := ⟨_, rfl⟩
            have hp' : (x : Int) * (y : Int) = (p : Int) := by rw [hp]; exact (Int.natCast_mul x y).symm
            rw [← hp] at hfit hstep hput
            obtain ⟨hf1, hf2, hf3⟩ := hfit
            have e1 : (((p + o + c) % 4294967296 : Nat) : Int) = ((p : Int) + (o : Int) + (c : Int)) % 4294967296 := by omega
            have e2 : (((p + o + c) / 4294967296 : Nat) : Int) = ((p : Int) + (o : Int) + (c : Int)) / 4294967296 := by omega
            have e3 : ((i : Int) + (j : Int)).toNat = i + j := by omega
            have HS := Hd.mk hstep
            have HP := Hd.mk hput
            have HYY := Hd.mk hy
            have E1 := Hd.mk e1
            have E2 := Hd.mk e2
            clear hstep hput hy ho' hp e1 e2
            have hw64 : (p : Int) + (o : Int) + (c : Int) ≤ 18446744073709551615 := by omega
            go_wp2_with fail
            go_roundw
            case rel =>
              refine ⟨j + 1, (p + o + c) / 4294967296, es.set (i + j) ((p + o + c) % 4294967296), by omega, by go_num, by rw [E2.out], hf3, by rw [List.length_set]; exact HL2.out, dg_set HDD2.out _ (Nat.mod_lt _ (by decide)), ?_, ?_, ?_, below_set HB2.out (Nat.le_refl _) _⟩
              · rw [val_take_next, ← HYY.out]; exact HS.out
              · intro t ht; rw [getD_set_ne (by omega)]; exact HZZ2.out t ht
              · rw [← E1.out]; exact HP.out
            case measure => simp [intOf]; omega
          · have hje : j = ln m := by omega
            subst hje
            have hck := HK2.out.at_ (i := i + ln m) (by have := HL2.out; omega)
            have hfz := HK2.out.frozen (i + ln m)
            have hput := HK2.out.put (i + ln m) c
            have hz0 := HZZ2.out (i + ln m) (Nat.le_refl _)
            have hvs := val_set (ds := es) (i := i + ln m) (by have := HL2.out; omega) c
            rw [hz0] at hck hvs
            have e3 : ((i : Int) + (ln m : Int)).toNat = i + ln m := by omega
            have hnew : val (es.set (i + ln m) c) = m * val ((dig n).take (i + 1)) := by
              have h1 := HV2.out
              have h2 := HV.out
              rw [val_take_all (Nat.le_refl _)] at h1
              rw [val_take_next, ← HXX.out, Nat.mul_add, ← h2, Nat.mul_left_comm m, Nat.mul_comm m x, ← h1]
              omega
            have HN := Hd.mk hnew
            have HP := Hd.mk hput
            clear hnew hput hvs hz0
            go_wp2_with fail
            go_roundw
            case rel =>
              refine ⟨i + 1, es.set (i + ln m) c, by omega, by go_num, by rw [List.length_set]; exact HL2.out, dg_set HDD2.out _ hc, HN.out, ?_, HP.out, below_set HB2.out (Nat.le_refl _) _⟩
              intro t ht
              rw [getD_set_ne (by omega)]
              exact HZZ2.out t (by omega)
            case measure => simp [intOf]; omega
      · have hie : i = ln n := by omega
        subst hie
        have hv2 : val ds = m * n := by
          rw [HV.out, val_take_all (Nat.le_refl _)]
          try exact Nat.mul_comm _ _
        have hc := norm_calls (some ⟨w.heap.size, 0, none⟩) (ln m + ln n) ds _ HK.out.reads HDD.out (by have := HL.out; omega) (by omega)
        have hrn := HK.out.reads.of_take HDD.out
        rw [HL.out, hv2] at hc
        rw [hv2] at hrn
        have hfin : ln (m * n) ≤ ln m + ln n := Nat.le_trans (ln_mul m n) (by omega)
        have HC := Hd.mk hc
        have HRN := Hd.mk hrn
        clear hv2 hc hrn
        go_wp2_with (first | (go_at_call 121; refine HC.out.mono ?_; rintro e w' ⟨rfl, rfl⟩))
        go_ret
        exact ⟨_, _, rfl, ⟨HRN.out, hfin, by omega⟩, HB.out⟩
end Go.Proofs.Ytcjcpfafalkceaa
set_option linter.unusedVariables false
namespace Go.Proofs.Ytcjcpfafalkceaa
open Go.RowKit
theorem block_of_add (a : Addr) (n : Nat) : (a.add n).block = a.block := by unfold Addr.add; split <;> rfl
def Reads (w : World) (B size : Nat) (A : Option Addr) (n : Nat) (xs : List Value) : Prop :=
  xs.length = n * size ∧ (0 < n → ∃ ad, A = some ad ∧ ad.block < B ∧ ∀ j u, xs[j]? = some u → w.cell? (ad.add j) = some u)
section
variable {w w' : World} {B B' size n : Nat} {A : Option Addr} {xs : List Value}
theorem Reads.at_ {k : Nat} (h : Reads w B 1 A n xs) (hk : k < n) : ∃ ad u, A = some ad ∧ ad.block < B ∧ xs[k]? = some u ∧ w.cell? (ad.add k) = some u := by
  obtain ⟨ad, e, hb, hc⟩ := h.2 (by omega)
  have hl : k < xs.length := by have := h.1; omega
  exact ⟨ad, xs[k], e, hb, List.getElem?_eq_getElem hl, hc k _ (List.getElem?_eq_getElem hl)⟩
theorem Reads.keep (h : Reads w B size A n xs) (hk : ∀ p : Addr, p.block < B → w'.cell? p = w.cell? p) : Reads w' B size A n xs :=
  ⟨h.1, fun hn => by
    obtain ⟨ad, e, hb, hc⟩ := h.2 hn
    exact ⟨ad, e, hb, fun j u hu => (hk _ (by rw [block_of_add]; exact hb)).trans (hc j u hu)⟩⟩
theorem Reads.drew (h : Reads w B size A n xs) : Reads w.drew B size A n xs := h
theorem Reads.drewN (h : Reads w B size A n xs) (k : Nat) : Reads (w.drewN k) B size A n xs := h
theorem Reads.alloc (h : Reads w B size A n xs) (hB : B ≤ w.heap.size) (o : Obj) : Reads (w.alloc o) B size A n xs := h.keep fun p hp => World.cell?_alloc_lt w o p (by omega)
theorem Reads.setCell (h : Reads w B size A n xs) {p : Addr} (hB : B ≤ p.block) (u : Value) : Reads (w.setCell p u) B size A n xs :=
  h.keep fun q hq => World.cell?_setCell_other w p q u (fun e => by subst e; omega)
theorem Reads.grown (h : Reads w B size A n xs) {row : Option Nat} (hg : w.grownBy w' row) (hB : B ≤ w.heap.size) (hr : ∀ g, row = some g → B ≤ g) : Reads w' B size A n xs :=
  h.keep fun p hp => World.cell?_of_block (hg.block p.block (by omega) (fun e => by have := hr _ e.symm; omega))
end
section
variable {P : Program} (w : World)
theorem run_append_of_nil (base : Nat) (t ty e : TypeId) (i : TypeInfo) (size : Nat) (ht : P.underlying t = some (.slice e)) (hi : P.info? e = some i)
    (v : Value) (n : Nat) (xs : List Value) (hown : w.ownsRow base e size v n xs) (c : Nat) : (Builtin.append_ #[t, t] ty #[v, .slice none 0 c]).run P w = .ok v w := by
  rcases hown.2 with ⟨rfl, rfl⟩ | ⟨g, cap, cur, rfl, _, _, hnc, _⟩
  · simp [Builtin.append_, run_underlying ht, sizeOf, typeInfo, hi, Builtin.lenOf, Builtin.firstCells]
  · simp [Builtin.append_, run_underlying ht, sizeOf, typeInfo, hi, Builtin.lenOf, Builtin.firstCells, hnc, storeCells]
theorem run_append_any (base : Nat) (t ty e : TypeId) (i : TypeInfo) (z : Value) (size bytes : Nat) (ht : P.underlying t = some (.slice e)) (hi : P.info? e = some i) (hz : i.zero = some z)
    (hsize : i.size = size) (hby : i.bytes = bytes) (hzs : z.cells.size = size) (hsz : 0 < size)
    (v : Value) (n : Nat) (xs : List Value) (hown : w.ownsRow base e size v n xs)
    (B : Nat) (A : Option Addr) (m c : Nat) (news : List Value) (hr : Reads w B size A m news) (h1 : ∀ u ∈ news, u.oneCell' = true)
    (h63 : n + m ≤ maxLen) (hbytes : (n + m) * bytes ≤ 140737488355328) (hbase : base ≤ w.heap.size) :
    ∃ v' w', (Builtin.append_ #[t, t] ty #[v, .slice A m c]).run P w = .ok v' w' ∧ w'.ownsRow base e size v' (n + m) (xs ++ news) ∧ w.grownBy w' v.ownBlock ∧
      (v'.ownBlock = v.ownBlock ∨ v'.ownBlock = some w.heap.size) := by
  rcases A with _ | ad
  · have hm : m = 0 := by
      rcases Nat.eq_zero_or_pos m with h0 | h0
      · exact h0
      · obtain ⟨ad, h, _⟩ := hr.2 h0
        cases h
    subst hm
    have hn : news = [] := List.eq_nil_of_length_eq_zero (by simpa using hr.1)
    subst hn
    exact ⟨v, w, run_append_of_nil w base t ty e i size ht hi v n xs hown c, by simpa using hown, World.grownBy.refl w _, .inl rfl⟩
  · have hcells : ∀ j u, news[j]? = some u → w.cell? (ad.add j) = some u := by
      intro j u hu
      rcases Nat.eq_zero_or_pos m with h0 | h0
      · subst h0
        have hn : news = [] := List.eq_nil_of_length_eq_zero (by simpa using hr.1)
        subst hn
        simp at hu
      · obtain ⟨ad', h, _, hc⟩ := hr.2 h0
        injection h with h
        subst h
        exact hc j u hu
    obtain ⟨v', w', hrun, h2, h3, _, h5⟩ := run_append_own_at (P := P) w base t ty e i z size bytes ht hi hz hsize hby hzs hsz v n xs hown ad m c news hr.1 hcells h1 h63 hbytes hbase
    exact ⟨v', w', hrun, h2, h3, h5⟩
theorem wp_append_any {o : Oper} {a : Act} {K : Act → World → Prop} {Q : Exit → Act → World → Prop} (s x : Operand) (t : TypeId)
    (ho : o.op = .call { callee := .builtin .append, args := #[s, x], argTypes := #[t, t] })
    (base : Nat) (e : TypeId) (i : TypeInfo) (z : Value) (size bytes : Nat) (ht : P.underlying t = some (.slice e)) (hi : P.info? e = some i) (hz : i.zero = some z)
    (hsize : i.size = size) (hby : i.bytes = bytes) (hzs : z.cells.size = size) (hsz : 0 < size)
    (v : Value) (n : Nat) (xs : List Value) (hs : a.eval s = v) (hown : w.ownsRow base e size v n xs)
    (B : Nat) (A : Option Addr) (m c : Nat) (news : List Value) (hx : a.eval x = .slice A m c) (hr : Reads w B size A m news) (h1 : ∀ u ∈ news, u.oneCell' = true)
    (h63 : n + m ≤ maxLen) (hbytes : (n + m) * bytes ≤ 140737488355328) (hbase : base ≤ w.heap.size)
    (h : ∀ v' w', w'.ownsRow base e size v' (n + m) (xs ++ news) → w.grownBy w' v.ownBlock → (v'.ownBlock = v.ownBlock ∨ v'.ownBlock = some w.heap.size) → K (a.put o.dst v') w') : o.wp P a w K Q := by
  obtain ⟨v', w', hrun, h2, h3, h4⟩ := run_append_any (P := P) w base t o.type e i z size bytes ht hi hz hsize hby hzs hsz v n xs hown B A m c news hr h1 h63 hbytes hbase
  unfold Oper.wp execOp
  simp only [ho, resolve, invoke, builtin, Sem.run_bind, Sem.run_pure, Result.andThen_ok, List.map_toArray, List.map_cons, List.map_nil, hs, hx, hrun]
  exact h v' w' h2 h3 h4
theorem wpList_append_any {ops : Array Oper} {rest : List Oper} {o : Oper} {a : Act} {Q : Exit → Act → World → Prop} (hgd : o.guard = none) (s x : Operand) (t : TypeId)
    (ho : o.op = .call { callee := .builtin .append, args := #[s, x], argTypes := #[t, t] })
    (base : Nat) (e : TypeId) (i : TypeInfo) (z : Value) (size bytes : Nat) (ht : P.underlying t = some (.slice e)) (hi : P.info? e = some i) (hz : i.zero = some z)
    (hsize : i.size = size) (hby : i.bytes = bytes) (hzs : z.cells.size = size) (hsz : 0 < size)
    (v : Value) (n : Nat) (xs : List Value) (hs : a.eval s = v) (hown : w.ownsRow base e size v n xs)
    (B : Nat) (A : Option Addr) (m c : Nat) (news : List Value) (hx : a.eval x = .slice A m c) (hr : Reads w B size A m news) (h1 : ∀ u ∈ news, u.oneCell' = true)
    (h63 : n + m ≤ maxLen) (hbytes : (n + m) * bytes ≤ 140737488355328) (hbase : base ≤ w.heap.size)
    (h : ∀ v' w', w'.ownsRow base e size v' (n + m) (xs ++ news) → w.grownBy w' v.ownBlock → (v'.ownBlock = v.ownBlock ∨ v'.ownBlock = some w.heap.size) → wpList P ops Q rest (a.put o.dst v') w') : wpList P ops Q (o :: rest) a w :=
  wpList_plain hgd fun _ hK => wp_append_any w s x t ho base e i z size bytes ht hi hz hsize hby hzs hsz v n xs hs hown B A m c news hx hr h1 h63 hbytes hbase fun v' w' h2 h3 h4 => hK _ _ (h v' w' h2 h3 h4)
end
theorem RN.reads {w : World} {A : Option Addr} {xs : List Nat} (h : RN w A xs) : Reads w w.heap.size 1 A xs.length (cells xs) := by
  refine ⟨by rw [cells_length, Nat.mul_one], fun hn => ?_⟩
  obtain ⟨ad, rfl, hc⟩ := h hn
  refine ⟨ad, rfl, ?_, fun j u hu => ?_⟩
  · have := World.block_lt_of_cell? w _ (hc 0 hn)
    rwa [block_add] at this
  · have hj : j < xs.length := by
      rcases Nat.lt_or_ge j xs.length with h | h
      · exact h
      · rw [List.getElem?_eq_none (by rw [cells_length]; exact h)] at hu; cases hu
    rw [cells_get xs hj] at hu
    cases hu
    exact hc j hj
theorem cells_one (xs : List Nat) : ∀ u ∈ cells xs, u.oneCell' = true := by
  intro u hu
  obtain ⟨x, _, rfl⟩ := List.mem_map.1 hu
  rfl
theorem own_slice {w : World} {base : Nat} {e : TypeId} {v : Value} {xs : List Nat} (h : w.ownsRow base e 1 v xs.length (cells xs)) : ∃ A c, v = .slice A xs.length c ∧ RN w A xs ∧ xs.length ≤ c ∧ c ≤ 9223372036854775807 := by
  rcases h.2 with ⟨rfl, h0⟩ | ⟨g, cap, cur, rfl, hg, hh, hnc, hcm, hcs, htk⟩
  · have : xs = [] := List.eq_nil_of_length_eq_zero h0
    subst this
    exact ⟨none, 0, rfl, RN.nil _ _, Nat.le_refl _, by omega⟩
  · refine ⟨some ⟨g, 0, none⟩, cap, rfl, fun _ => ⟨_, rfl, fun j hj => ?_⟩, hnc, by unfold maxLen at hcm; omega⟩
    have e1 : (⟨g, 0, none⟩ : Addr).add j = ⟨g, j, none⟩ := by
      unfold Addr.add
      split
      · next h => rw [h]
      · simp
    rw [e1, cell_of_row w g j cur e (0, 0) hh, ← Array.getElem?_toList]
    have : cur.toList[j]? = (cells xs)[j]? := by
      rw [← htk, List.getElem?_take, if_pos (by omega)]
    rw [this, cells_get xs hj]
theorem own_made {w : World} {g : Nat} {e : TypeId} {n c : Nat} {ds : List Nat} (h : w.heap[g]? = some (.cells (cells ds).toArray e (0, 0))) (hl : ds.length = c) (hn : n ≤ c) (hc : c ≤ 9223372036854775807) {base : Nat} (hb : base ≤ g) :
    w.ownsRow base e 1 (.slice (some ⟨g, 0, none⟩) n c) n (cells (ds.take n)) := by
  refine ⟨by rw [cells_length, List.length_take]; omega, .inr ⟨g, c, _, rfl, hb, h, hn, by unfold maxLen; omega, by simp [cells]; omega, ?_⟩⟩
  simp [cells, List.map_take]
set_option maxRecDepth 100000 in
theorem make_words2 (t : TypeId) (ht : Try.prog.underlying t = some (.slice 72)) (z1 z2 : Int) (n c : Nat) (h1 : z1 = (n : Int)) (h2 : z2 = (c : Int)) (hnc : n ≤ c) (hn : c ≤ 35184372088832) (w : World) :
    (Instr.makeSlice t (.int .i64 z1) (.int .i64 z2)).run Try.prog w = .ok (.slice (some ⟨w.heap.size, 0, none⟩) n c) (w.alloc (.cells (cells (List.replicate c 0)).toArray 72)) := by
  obtain ⟨i0, hi, hz0, hz1, hz2⟩ := info_parts Try.info_word
  subst h1
  subst h2
  have hb : (i0.bytes : Int) * (c : Int) ≤ 281474976710656 := by rw [hz2]; omega
  have hr := run_make (P := Try.prog) w t 72 i0 (.int .u32 0) ht hi hz0 .i64 .i64 n c (by omega) (by omega) hb (by omega)
  simp only [Int.toNat_natCast] at hr
  rw [hr]
  congr 3
  rw [← zeros_cells, hz1]
  apply Array.ext
  · simp [madeCells]
  · intro i h1 h2
    simp [madeCells, Value.cells, Nat.mod_one]
theorem RN.drop {w : World} {A : Option Addr} {xs : List Nat} (h : RN w A xs) {k c : Nat} (hk : k ≤ xs.length) (hc : xs.length ≤ c) : RN w (if c = k then A else A.map (·.add k)) (xs.drop k) := fun hn => by
  rw [List.length_drop] at hn
  obtain ⟨ad, rfl, hcell⟩ := h (by omega)
  rw [if_neg (by omega)]
  refine ⟨ad.add k, rfl, fun j hj => ?_⟩
  rw [List.length_drop] at hj
  rw [add_add, hcell (k + j) (by omega), List.getD_eq_getElem?_getD, List.getD_eq_getElem?_getD, List.getElem?_drop]
theorem dig_shift {n : Nat} (h : n ≠ 0) (k : Nat) : dig (n * B ^ k) = List.replicate k 0 ++ dig n := by
  have e : val (List.replicate k 0 ++ dig n) = n * B ^ k := by rw [val_append, val_zeros, val_dig, List.length_replicate, Nat.zero_add, Nat.mul_comm]
  rw [← e]
  refine dig_val (dg_append (dg_zeros k) (dg_dig n)) fun j hj => ?_
  rw [List.length_append, List.length_replicate] at hj
  have hp : 0 < ln n := Nat.pos_of_ne_zero (fun h0 => h (ln_eq_zero.1 h0))
  unfold ln at hp
  rw [List.getD_eq_getElem?_getD, List.getElem?_append_right (by rw [List.length_replicate]; omega), List.length_replicate, ← List.getD_eq_getElem?_getD]
  exact dig_last n (j - k) (by omega)
end Go.Proofs.Ytcjcpfafalkceaa
