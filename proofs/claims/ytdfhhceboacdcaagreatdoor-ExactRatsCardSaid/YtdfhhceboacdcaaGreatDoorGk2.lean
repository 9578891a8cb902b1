/- Part 2 of the texts behind this claim. -/
import Derived.Maps.AppendAt
import Derived.Deep.AppendLies
import Derived.RegionTactic
import Derived.Laws.OwnMore
import Derived.Test.YtdfhhceboacdcaaGreatDoorGk1
set_option linter.unusedVariables false
namespace Go.Proofs.YtdfhhceboacdcaaGreatDoor
open Go.RowKit
theorem block_of_add (a : Addr) (n : Nat) : (a.add n).block = a.block := by unfold Addr.add; split <;> rfl
def Reads (w : World) (B size : Nat) (A : Option Addr) (n : Nat) (xs : List Value) : Prop :=
 xs.length = n * size ∧ (0 < n → ∃ ad, A = some ad ∧ ad.block < B ∧ ∀ j u, xs[j]? = some u → w.cell? (ad.add j) = some u)
section
variable {w w' : World} {B B' size n : Nat} {A : Option Addr} {xs : List Value}
theorem Reads.at_ {k : Nat} (h : Reads w B 1 A n xs) (hk : k < n) : ∃ ad u, A = some ad ∧ ad.block < B ∧ xs[k]? = some u ∧ w.cell? (ad.add k) = some u := by
 obtain ⟨ad, e, hb, hc⟩ := h.2 (by omega); have hl : k < xs.length := by have := h.1; omega
 exact ⟨ad, xs[k], e, hb, List.getElem?_eq_getElem hl, hc k _ (List.getElem?_eq_getElem hl)⟩
theorem Reads.keep (h : Reads w B size A n xs) (hk : ∀ p : Addr, p.block < B → w'.cell? p = w.cell? p) : Reads w' B size A n xs :=
 ⟨h.1, fun hn => by
  obtain ⟨ad, e, hb, hc⟩ := h.2 hn
  exact ⟨ad, e, hb, fun j u hu => (hk _ (by rw [block_of_add]; exact hb)).trans (hc j u hu)⟩⟩
theorem Reads.drew (h : Reads w B size A n xs) : Reads w.drew B size A n xs := h
theorem Reads.drewN (h : Reads w B size A n xs) (k : Nat) : Reads (w.drewN k) B size A n xs := h
theorem Reads.alloc (h : Reads w B size A n xs) (hB : B ≤ w.heap.size) (o : Obj) : Reads (w.alloc o) B size A n xs := h.keep fun p hp => World.cell?_alloc_lt w o p (by omega)
theorem Reads.setCell (h : Reads w B size A n xs) {p : Addr} (hB : B ≤ p.block) (u : Value) : Reads (w.setCell p u) B size A n xs :=
 h.keep fun q hq => World.cell?_setCell_other w p q u (fun e => by subst e; omega)
theorem Reads.grown (h : Reads w B size A n xs) {row : Option Nat} (hg : w.grownBy w' row) (hB : B ≤ w.heap.size) (hr : ∀ g, row = some g → B ≤ g) : Reads w' B size A n xs :=
 h.keep fun p hp => World.cell?_of_block (hg.block p.block (by omega) (fun e => by have := hr _ e.symm; omega))
theorem Reads.of_own {base : Nat} {e : TypeId} {c : Nat} (h : w.ownsRow base e size (.slice A n c) n xs) : Reads w w.heap.size size A n xs := by
 refine ⟨h.1, fun hn => ?_⟩; obtain ⟨g, cap, hv, _, hlt⟩ := h.form hn; have hA : A = some ⟨g, 0, none⟩ := by injection hv
 subst hA; exact ⟨_, rfl, hlt, h.cells (g := g) rfl⟩
end
section
variable {P : Program} (w : World)
theorem run_append_of_nil (base : Nat) (t ty e : TypeId) (i : TypeInfo) (size : Nat) (ht : P.underlying t = some (.slice e)) (hi : P.info? e = some i)
  (v : Value) (n : Nat) (xs : List Value) (hown : w.ownsRow base e size v n xs) (c : Nat) : (Builtin.append_ #[t, t] ty #[v, .slice none 0 c]).run P w = .ok v w := by
 rcases hown.2 with ⟨rfl, rfl⟩ | ⟨g, cap, cur, rfl, _, _, hnc, _⟩
 ·simp [Builtin.append_, run_underlying ht, sizeOf, typeInfo, hi, Builtin.lenOf, Builtin.firstCells]
 simp [Builtin.append_, run_underlying ht, sizeOf, typeInfo, hi, Builtin.lenOf, Builtin.firstCells, hnc, storeCells]
theorem run_append_any (base : Nat) (t ty e : TypeId) (i : TypeInfo) (z : Value) (size bytes : Nat) (ht : P.underlying t = some (.slice e)) (hi : P.info? e = some i) (hz : i.zero = some z)
  (hsize : i.size = size) (hby : i.bytes = bytes) (hzs : z.cells.size = size) (hsz : 0 < size)
  (v : Value) (n : Nat) (xs : List Value) (hown : w.ownsRow base e size v n xs)
  (B : Nat) (A : Option Addr) (m c : Nat) (news : List Value) (hr : Reads w B size A m news) (h1 : ∀ u ∈ news, u.oneCell' = true)
  (h63 : n + m ≤ maxLen) (hbytes : (n + m) * bytes ≤ 140737488355328) (hbase : base ≤ w.heap.size) :
  ∃ v' w', (Builtin.append_ #[t, t] ty #[v, .slice A m c]).run P w = .ok v' w' ∧ w'.ownsRow base e size v' (n + m) (xs ++ news) ∧ w.grownBy w' v.ownBlock ∧
   (v'.ownBlock = v.ownBlock ∨ v'.ownBlock = some w.heap.size) := by
 rcases A with _ | ad
 ·have hm : m = 0 := by
   rcases Nat.eq_zero_or_pos m with h0 | h0
   ·exact h0
   obtain ⟨ad, h, _⟩ := hr.2 h0; cases h
  subst hm; have hn : news = [] := List.eq_nil_of_length_eq_zero (by simpa using hr.1); subst hn; exact ⟨v, w, run_append_of_nil w base t ty e i size ht hi v n xs hown c, by simpa using hown, World.grownBy.refl w _, .inl rfl⟩
 have hcells : ∀ j u, news[j]? = some u → w.cell? (ad.add j) = some u := by
  intro j u hu; rcases Nat.eq_zero_or_pos m with h0 | h0
  ·subst h0; have hn : news = [] := List.eq_nil_of_length_eq_zero (by simpa using hr.1); subst hn; simp at hu
  obtain ⟨ad', h, _, hc⟩ := hr.2 h0; injection h with h
  subst h; exact hc j u hu
 obtain ⟨v', w', hrun, h2, h3, _, h5⟩ := run_append_own_at (P := P) w base t ty e i z size bytes ht hi hz hsize hby hzs hsz v n xs hown ad m c news hr.1 hcells h1 h63 hbytes hbase; exact ⟨v', w', hrun, h2, h3, h5⟩
theorem wp_append_any {o : Oper} {a : Act} {K : Act → World → Prop} {Q : Exit → Act → World → Prop} (s x : Operand) (t : TypeId)
  (ho : o.op = .call { callee := .builtin .append, args := #[s, x], argTypes := #[t, t] })
  (base : Nat) (e : TypeId) (i : TypeInfo) (z : Value) (size bytes : Nat) (ht : P.underlying t = some (.slice e)) (hi : P.info? e = some i) (hz : i.zero = some z)
  (hsize : i.size = size) (hby : i.bytes = bytes) (hzs : z.cells.size = size) (hsz : 0 < size)
  (v : Value) (n : Nat) (xs : List Value) (hs : a.eval s = v) (hown : w.ownsRow base e size v n xs)
  (B : Nat) (A : Option Addr) (m c : Nat) (news : List Value) (hx : a.eval x = .slice A m c) (hr : Reads w B size A m news) (h1 : ∀ u ∈ news, u.oneCell' = true)
  (h63 : n + m ≤ maxLen) (hbytes : (n + m) * bytes ≤ 140737488355328) (hbase : base ≤ w.heap.size)
  (h : ∀ v' w', w'.ownsRow base e size v' (n + m) (xs ++ news) → w.grownBy w' v.ownBlock → (v'.ownBlock = v.ownBlock ∨ v'.ownBlock = some w.heap.size) → K (a.put o.dst v') w') : o.wp P a w K Q := by
 obtain ⟨v', w', hrun, h2, h3, h4⟩ := run_append_any (P := P) w base t o.type e i z size bytes ht hi hz hsize hby hzs hsz v n xs hown B A m c news hr h1 h63 hbytes hbase; unfold Oper.wp execOp; simp only [ho, resolve, invoke, builtin, Sem.run_bind, Sem.run_pure, Result.andThen_ok, List.map_toArray, List.map_cons, List.map_nil, hs, hx, hrun]; exact h v' w' h2 h3 h4
theorem wpList_append_any {ops : Array Oper} {rest : List Oper} {o : Oper} {a : Act} {Q : Exit → Act → World → Prop} (hgd : o.guard = none) (s x : Operand) (t : TypeId)
  (ho : o.op = .call { callee := .builtin .append, args := #[s, x], argTypes := #[t, t] })
  (base : Nat) (e : TypeId) (i : TypeInfo) (z : Value) (size bytes : Nat) (ht : P.underlying t = some (.slice e)) (hi : P.info? e = some i) (hz : i.zero = some z)
  (hsize : i.size = size) (hby : i.bytes = bytes) (hzs : z.cells.size = size) (hsz : 0 < size)
  (v : Value) (n : Nat) (xs : List Value) (hs : a.eval s = v) (hown : w.ownsRow base e size v n xs)
  (B : Nat) (A : Option Addr) (m c : Nat) (news : List Value) (hx : a.eval x = .slice A m c) (hr : Reads w B size A m news) (h1 : ∀ u ∈ news, u.oneCell' = true)
  (h63 : n + m ≤ maxLen) (hbytes : (n + m) * bytes ≤ 140737488355328) (hbase : base ≤ w.heap.size)
  (h : ∀ v' w', w'.ownsRow base e size v' (n + m) (xs ++ news) → w.grownBy w' v.ownBlock → (v'.ownBlock = v.ownBlock ∨ v'.ownBlock = some w.heap.size) → wpList P ops Q rest (a.put o.dst v') w') : wpList P ops Q (o :: rest) a w :=
 wpList_plain hgd fun _ hK => wp_append_any w s x t ho base e i z size bytes ht hi hz hsize hby hzs hsz v n xs hs hown B A m c news hx hr h1 h63 hbytes hbase fun v' w' h2 h3 h4 => hK _ _ (h v' w' h2 h3 h4)
end
theorem RN.reads {w : World} {A : Option Addr} {xs : List Nat} (h : RN w A xs) : Reads w w.heap.size 1 A xs.length (cells xs) := by
 refine ⟨by rw [cells_length, Nat.mul_one], fun hn => ?_⟩; obtain ⟨ad, rfl, hc⟩ := h hn; refine ⟨ad, rfl, ?_, fun j u hu => ?_⟩
 ·have := World.block_lt_of_cell? w _ (hc 0 hn); rwa [block_add] at this
 have hj : j < xs.length := by
  rcases Nat.lt_or_ge j xs.length with h | h
  ·exact h
  rw [List.getElem?_eq_none (by rw [cells_length]; exact h)] at hu; cases hu
 rw [cells_get xs hj] at hu; cases hu
 exact hc j hj
theorem cells_one (xs : List Nat) : ∀ u ∈ cells xs, u.oneCell' = true := by
 intro u hu; obtain ⟨x, _, rfl⟩ := List.mem_map.1 hu; rfl
theorem own_slice {w : World} {base : Nat} {e : TypeId} {v : Value} {xs : List Nat} (h : w.ownsRow base e 1 v xs.length (cells xs)) : ∃ A c, v = .slice A xs.length c ∧ RN w A xs ∧ xs.length ≤ c ∧ c ≤ 9223372036854775807 := by
 rcases h.2 with ⟨rfl, h0⟩ | ⟨g, cap, cur, rfl, hg, hh, hnc, hcm, hcs, htk⟩
 ·have : xs = [] := List.eq_nil_of_length_eq_zero h0; subst this; exact ⟨none, 0, rfl, RN.nil _ _, Nat.le_refl _, by omega⟩
 refine ⟨some ⟨g, 0, none⟩, cap, rfl, fun _ => ⟨_, rfl, fun j hj => ?_⟩, hnc, by unfold maxLen at hcm; omega⟩
 have e1 : (⟨g, 0, none⟩ : Addr).add j = ⟨g, j, none⟩ := by
  unfold Addr.add; split
  ·next h => rw [h]
  simp
 rw [e1, cell_of_row w g j cur e (0, 0) hh, ← Array.getElem?_toList]
 have : cur.toList[j]? = (cells xs)[j]? := by
  rw [← htk, List.getElem?_take, if_pos (by omega)]
 rw [this, cells_get xs hj]
theorem own_made {w : World} {g : Nat} {e : TypeId} {n c : Nat} {ds : List Nat} (h : w.heap[g]? = some (.cells (cells ds).toArray e (0, 0))) (hl : ds.length = c) (hn : n ≤ c) (hc : c ≤ 9223372036854775807) {base : Nat} (hb : base ≤ g) :
  w.ownsRow base e 1 (.slice (some ⟨g, 0, none⟩) n c) n (cells (ds.take n)) := by
 refine ⟨by rw [cells_length, List.length_take]; omega, .inr ⟨g, c, _, rfl, hb, h, hn, by unfold maxLen; omega, by simp [cells]; omega, ?_⟩⟩; simp [cells, List.map_take]
set_option maxRecDepth 100000 in
theorem make_words2 (t : TypeId) (ht : Tryz.prog.underlying t = some (.slice 46)) (z1 z2 : Int) (n c : Nat) (h1 : z1 = (n : Int)) (h2 : z2 = (c : Int)) (hnc : n ≤ c) (hn : c ≤ 35184372088832) (w : World) :
  (Instr.makeSlice t (.int .i64 z1) (.int .i64 z2)).run Tryz.prog w = .ok (.slice (some ⟨w.heap.size, 0, none⟩) n c) (w.alloc (.cells (cells (List.replicate c 0)).toArray 46)) := by
 obtain ⟨i0, hi, hz0, hz1, hz2⟩ := info_parts Tryz.info_word; subst h1; subst h2; have hb : (i0.bytes : Int) * (c : Int) ≤ 281474976710656 := by rw [hz2]; omega
 have hr := run_make (P := Tryz.prog) w t 46 i0 (.int .u32 0) ht hi hz0 .i64 .i64 n c (by omega) (by omega) hb (by omega); simp only [Int.toNat_natCast] at hr; rw [hr]; congr 3
 rw [← zeros_cells, hz1]; apply Array.ext
 ·simp [madeCells]
 intro i h1 h2; simp [madeCells, Value.cells, Nat.mod_one]
theorem RN.drop {w : World} {A : Option Addr} {xs : List Nat} (h : RN w A xs) {k c : Nat} (hk : k ≤ xs.length) (hc : xs.length ≤ c) : RN w (if c = k then A else A.map (·.add k)) (xs.drop k) := fun hn => by
 rw [List.length_drop] at hn; obtain ⟨ad, rfl, hcell⟩ := h (by omega); rw [if_neg (by omega)]; refine ⟨ad.add k, rfl, fun j hj => ?_⟩; rw [List.length_drop] at hj; rw [add_add, hcell (k + j) (by omega), List.getD_eq_getElem?_getD, List.getD_eq_getElem?_getD, List.getElem?_drop]
theorem dig_shift {n : Nat} (h : n ≠ 0) (k : Nat) : dig (n * B ^ k) = List.replicate k 0 ++ dig n := by
 have e : val (List.replicate k 0 ++ dig n) = n * B ^ k := by rw [val_append, val_zeros, val_dig, List.length_replicate, Nat.zero_add, Nat.mul_comm]
 rw [← e]; refine dig_val (dg_append (dg_zeros k) (dg_dig n)) fun j hj => ?_
 rw [List.length_append, List.length_replicate] at hj; have hp : 0 < ln n := Nat.pos_of_ne_zero (fun h0 => h (ln_eq_zero.1 h0)); unfold ln at hp; rw [List.getD_eq_getElem?_getD, List.getElem?_append_right (by rw [List.length_replicate]; omega), List.length_replicate, ← List.getD_eq_getElem?_getD]; exact dig_last n (j - k) (by omega)
end Go.Proofs.YtdfhhceboacdcaaGreatDoor
set_option linter.unusedVariables false
namespace Go.Proofs.YtdfhhceboacdcaaGreatDoor
open Go.RowKit
theorem run_max2_int (k k' : IntKind) (x y : Int) : Builtin.max2 (.int k x) (.int k' y) = pure (.int k (if x < y then y else x)) := by simp only [Builtin.max2, gt_iff_lt]
theorem run_max_two (ats : Array TypeId) (ty : TypeId) (a b : Value) : Builtin.max_ ats ty #[a, b] = (Builtin.max2 a b >>= fun s => pure s) := by simp only [Builtin.max_, List.foldlM_cons, List.foldlM_nil]
theorem reads_new (w : World) (t : TypeId) (x : Nat) : Reads (w.alloc (.cells #[.int .u32 ((x : Nat) : Int)] t)) (w.alloc (.cells #[.int .u32 ((x : Nat) : Int)] t)).heap.size 1 (some ⟨w.heap.size, 0, none⟩) 1 (cells [x]) :=
 (Blk.reads (ds := [x]) (heap_alloc_new w (.cells #[.int .u32 ((x : Nat) : Int)] t) : Blk _ _ t (cells [x]))).reads
theorem own_ge {w : World} {base : Nat} {e : TypeId} {s : Nat} {v : Value} {n : Nat} {xs : List Value} (h : w.ownsRow base e s v n xs) : ∀ g, v.ownBlock = some g → base ≤ g := by
 intro g hg; rcases h.2 with ⟨rfl, _⟩ | ⟨g', cap, cur, rfl, hb, _⟩
 ·cases hg
 cases hg; exact hb
attribute [local go_sem] run_max2_int run_max_two
set_option maxRecDepth 100000 in
theorem rplus_calls (A1 : Option Addr) (c1 m : Nat) (A2 : Option Addr) (c2 n : Nat) (w : World) (h1 : NN w A1 c1 m) (h2 : NN w A2 c2 n) (l1 : ln m ≤ 1073741824) (l2 : ln n ≤ 1073741824) :
  Calls Tryz.prog 52 #[.slice A1 (ln m) c1, .slice A2 (ln n) c2] w (RetN (m + n) w) := by
 have HX := Hd.mk h1; have HY := Hd.mk h2; clear h1 h2; by_cases hlt : ln m < ln n
 ·have hmk := fun W => make_words2 59 Tryz.underlying59 0 ((ln n : Int) + 1) 0 (ln n + 1) rfl (by omega) (by omega) (by omega) W
  have hown : (w.alloc (.cells (cells (List.replicate (ln n + 1) 0)).toArray 46)).ownsRow w.heap.size 46 1 (.slice (some ⟨w.heap.size, 0, none⟩) 0 (ln n + 1)) 0 (cells []) := own_made (heap_alloc_new w (.cells (cells (List.replicate (ln n + 1) 0)).toArray 46)) (c := ln n + 1) (n := 0) (by simp) (by omega) (by omega) (base := w.heap.size) (Nat.le_refl _); have HOWN := Hd.mk hown; clear hown; obtain ⟨i0, hi, hz0, hz1, hz2⟩ := info_parts Tryz.info_word; go_enter Tryz.func52, Tryz.ntmps52
  go_wp2
  clear hmk; go_loopw [5, 6, 7] (fun s5 s6 s7 wr => ∃ (v : Value) (k cy : Nat) (ds : List Nat), v = s5 ∧ k ≤ ln n ∧ s7 = .int .i64 k ∧ s6 = .int .u64 ((cy : Nat) : Int) ∧ cy ≤ 1 ∧ ds.length = k ∧ Dg ds ∧ val ds + B ^ k * cy = val ((dig m).take k) + val ((dig n).take k) ∧ wr.ownsRow w.heap.size 46 1 v k (cells ds) ∧ Below w.heap.size w wr) (fun _ _ s7 _ => ln n - (intOf s7).toNat)
  case atStart => exact ⟨_, 0, 0, [], rfl, Nat.zero_le _, rfl, rfl, Nat.zero_le _, rfl, (fun x hx => by cases hx), by simp [val], HOWN.out, below_alloc (Below.refl _ _) _⟩
  case round =>
   obtain ⟨v, k, cy, ds, rfl, hk, rfl, rfl, hcy, hdl, hdd, hval, hown, hbel⟩ := hrel; have HV := Hd.mk hval; have HO := Hd.mk hown; have HL := Hd.mk hdl; have HB := Hd.mk hbel; have HD := Hd.mk hdd; clear hval hown hdl hbel hdd; obtain ⟨dx, hdx⟩ : ∃ dx, dx = (dig m).getD k 0 := ⟨_, rfl⟩; have hdx1 : dx < 4294967296 := by rw [hdx]; exact dg_get (dg_dig _) k
   obtain ⟨dy, hdy⟩ : ∃ dy, dy = (dig n).getD k 0 := ⟨_, rfl⟩; have hdy1 : dy < 4294967296 := by rw [hdy]; exact dg_get (dg_dig _) k
   have HDX := Hd.mk hdx; have HDY := Hd.mk hdy; clear hdx hdy; by_cases hkm : k < ln m
   ·obtain ⟨a1, rfl, hcell1⟩ := (HX.out.to HB.out).at_ hkm; rw [← HDX.out] at hcell1; by_cases hkn : k < ln n
    ·obtain ⟨a2, rfl, hcell2⟩ := (HY.out.to HB.out).at_ hkn; rw [← HDY.out] at hcell2; have HZ := Hd.mk (Nat.le_refl 0); obtain ⟨x, hx⟩ : ∃ x : Nat, x = (dx + dy + cy) % 4294967296 := ⟨_, rfl⟩; obtain ⟨c2, hc2⟩ : ∃ c2 : Nat, c2 = (dx + dy + cy) / 4294967296 := ⟨_, rfl⟩; have hx' : ((cy : Int) + (dx : Int) + (dy : Int)) % 4294967296 = (x : Int) := by have hz := HZ.out; rw [hx]; omega
     have hc' : ((cy : Int) + (dx : Int) + (dy : Int)) / 4294967296 = (c2 : Int) := by have hz := HZ.out; rw [hc2]; omega
     have hxl : x < B := by rw [hx]; exact Nat.mod_lt _ (by decide)
     have hcl : c2 ≤ 1 := by rw [hc2]; omega
     have hstep := add_step (a := dx) (b := dy) HL.out HV.out; rw [← hx, ← hc2, HDX.out, HDY.out, ← val_take_next, ← val_take_next] at hstep; have HS := Hd.mk hstep; clear hx hc2 hstep; go_wp2_with (first | (at_builtin; (refine wpList_append_any _ rfl (.tmp 49) (.tmp 52) 59 rfl w.heap.size 46 i0 (.int .u32 0) 1 4 Tryz.underlying59 hi hz0 hz1 hz2 rfl (by decide) v k (cells ds) rfl (HO.out.alloc _) _ (some ⟨wr.heap.size, 0, none⟩) 1 1 (cells [x]) rfl (reads_new _ _ _) (cells_one _) (by unfold maxLen; omega) (by omega) (by have := HB.out.size; simp; omega) ?_; intro v1 w1 hown1 hg1 hat1)))
     rw [← cells_append] at hown1; go_roundw
     case rel => exact ⟨_, k + 1, c2, ds ++ [x], rfl, by omega, by go_num, rfl, hcl, by rw [List.length_append, HL.out]; rfl, dg_append HD.out (dg_one hxl), HS.out, hown1, (below_alloc HB.out _).grown hg1 (by have := HB.out.size; simp; omega) (own_ge HO.out)⟩
     case measure => simp [intOf]; omega
    have hdy0 : dy = 0 := by rw [HDY.out]; exact getD_zero_of_le (by unfold ln at hkn; omega)
    have HZ := Hd.mk hdy0; clear hdy0; try (exfalso; omega)
    all_goals
     obtain ⟨x, hx⟩ : ∃ x : Nat, x = (dx + dy + cy) % 4294967296 := ⟨_, rfl⟩; obtain ⟨c2, hc2⟩ : ∃ c2 : Nat, c2 = (dx + dy + cy) / 4294967296 := ⟨_, rfl⟩; have hx' : ((cy : Int) + (dx : Int)) % 4294967296 = (x : Int) := by have hz := HZ.out; rw [hx]; omega
     have hc' : ((cy : Int) + (dx : Int)) / 4294967296 = (c2 : Int) := by have hz := HZ.out; rw [hc2]; omega
     have hxl : x < B := by rw [hx]; exact Nat.mod_lt _ (by decide)
     have hcl : c2 ≤ 1 := by rw [hc2]; omega
     have hstep := add_step (a := dx) (b := dy) HL.out HV.out; rw [← hx, ← hc2, HDX.out, HDY.out, ← val_take_next, ← val_take_next] at hstep; have HS := Hd.mk hstep; clear hx hc2 hstep; go_wp2_with (first | (at_builtin; (refine wpList_append_any _ rfl (.tmp 49) (.tmp 52) 59 rfl w.heap.size 46 i0 (.int .u32 0) 1 4 Tryz.underlying59 hi hz0 hz1 hz2 rfl (by decide) v k (cells ds) rfl (HO.out.alloc _) _ (some ⟨wr.heap.size, 0, none⟩) 1 1 (cells [x]) rfl (reads_new _ _ _) (cells_one _) (by unfold maxLen; omega) (by omega) (by have := HB.out.size; simp; omega) ?_; intro v1 w1 hown1 hg1 hat1)))
     rw [← cells_append] at hown1; go_roundw
     case rel => exact ⟨_, k + 1, c2, ds ++ [x], rfl, by omega, by go_num, rfl, hcl, by rw [List.length_append, HL.out]; rfl, dg_append HD.out (dg_one hxl), HS.out, hown1, (below_alloc HB.out _).grown hg1 (by have := HB.out.size; simp; omega) (own_ge HO.out)⟩
     case measure => simp [intOf]; omega
   have hdx0 : dx = 0 := by rw [HDX.out]; exact getD_zero_of_le (by unfold ln at hkm; omega)
   have HZ := Hd.mk hdx0; clear hdx0; by_cases hkn : k < ln n
   ·obtain ⟨a2, rfl, hcell2⟩ := (HY.out.to HB.out).at_ hkn; rw [← HDY.out] at hcell2; try (exfalso; omega)
    all_goals
     obtain ⟨x, hx⟩ : ∃ x : Nat, x = (dx + dy + cy) % 4294967296 := ⟨_, rfl⟩; obtain ⟨c2, hc2⟩ : ∃ c2 : Nat, c2 = (dx + dy + cy) / 4294967296 := ⟨_, rfl⟩; have hx' : ((cy : Int) + (dy : Int)) % 4294967296 = (x : Int) := by have hz := HZ.out; rw [hx]; omega
     have hc' : ((cy : Int) + (dy : Int)) / 4294967296 = (c2 : Int) := by have hz := HZ.out; rw [hc2]; omega
     have hxl : x < B := by rw [hx]; exact Nat.mod_lt _ (by decide)
     have hcl : c2 ≤ 1 := by rw [hc2]; omega
     have hstep := add_step (a := dx) (b := dy) HL.out HV.out; rw [← hx, ← hc2, HDX.out, HDY.out, ← val_take_next, ← val_take_next] at hstep; have HS := Hd.mk hstep; clear hx hc2 hstep; go_wp2_with (first | (at_builtin; (refine wpList_append_any _ rfl (.tmp 49) (.tmp 52) 59 rfl w.heap.size 46 i0 (.int .u32 0) 1 4 Tryz.underlying59 hi hz0 hz1 hz2 rfl (by decide) v k (cells ds) rfl (HO.out.alloc _) _ (some ⟨wr.heap.size, 0, none⟩) 1 1 (cells [x]) rfl (reads_new _ _ _) (cells_one _) (by unfold maxLen; omega) (by omega) (by have := HB.out.size; simp; omega) ?_; intro v1 w1 hown1 hg1 hat1)))
     rw [← cells_append] at hown1; go_roundw
     case rel => exact ⟨_, k + 1, c2, ds ++ [x], rfl, by omega, by go_num, rfl, hcl, by rw [List.length_append, HL.out]; rfl, dg_append HD.out (dg_one hxl), HS.out, hown1, (below_alloc HB.out _).grown hg1 (by have := HB.out.size; simp; omega) (own_ge HO.out)⟩
     case measure => simp [intOf]; omega
   have hke : k = ln n := by omega
   have hv2 : val (ds ++ [cy]) = m + n := by
    rw [val_snoc, HL.out, HV.out, val_take_all (by omega), val_take_all (by omega)]
   have hcyx : (cy : Int) % 4294967296 = (cy : Int) := by omega
   have HC := Hd.mk hv2; have hdd2 : Dg (ds ++ [cy]) := dg_append HD.out (dg_one (by unfold B; omega)); have HD2 := Hd.mk hdd2; have hfin : ln (m + n) ≤ ln n + 1 := Nat.le_trans (ln_add m n) (by omega); have HKE := Hd.mk hke; clear hv2 hdd2 hke hdx1 hdy1; go_wp2_with (first | (at_builtin; (refine wpList_append_any _ rfl (.tmp 56) (.tmp 59) 59 rfl w.heap.size 46 i0 (.int .u32 0) 1 4 Tryz.underlying59 hi hz0 hz1 hz2 rfl (by decide) v k (cells ds) rfl (HO.out.alloc _) _ (some ⟨wr.heap.size, 0, none⟩) 1 1 (cells [cy]) rfl (reads_new _ _ _) (cells_one _) (by unfold maxLen; omega) (by omega) (by have := HB.out.size; simp; omega) ?_; intro v1 w1 hown1 hg1 hat1; rw [← cells_append] at hown1; have hl : (ds ++ [cy]).length = k + 1 := (by rw [List.length_append, HL.out]; rfl); have hown2 : w1.ownsRow w.heap.size 46 1 v1 (ds ++ [cy]).length (cells (ds ++ [cy])) := (by rw [hl]; exact hown1); obtain ⟨A3, c3, hv3, hrn, hc3, hcm⟩ := own_slice hown2; subst hv3; rw [hl] at hc3 ⊢; have HR := Hd.mk hrn; have HT := Hd.mk (trim_calls A3 c3 (ds ++ [cy]) w1 hrn HD2.out (by rw [hl]; exact hc3) hcm); rw [hl, HC.out] at HT; have hb1 := (below_alloc HB.out (.cells #[.int .u32 ((cy : Nat) : Int)] 46)).grown hg1 (by have := HB.out.size; simp; omega) (own_ge HO.out); have HB1 := Hd.mk hb1; clear hrn hl hown1 hown2 hg1 hat1 hb1)) | (go_at_call 81; refine HT.out.mono ?_; rintro e w' ⟨rfl, rfl⟩))
   go_ret
   refine ⟨_, _, rfl, ⟨?_, by omega, hcm⟩, HB1.out⟩; have := HR.out.of_take HD2.out; rwa [HC.out] at this
 have hmk := fun W => make_words2 59 Tryz.underlying59 0 ((ln m : Int) + 1) 0 (ln m + 1) rfl (by omega) (by omega) (by omega) W
 have hown : (w.alloc (.cells (cells (List.replicate (ln m + 1) 0)).toArray 46)).ownsRow w.heap.size 46 1 (.slice (some ⟨w.heap.size, 0, none⟩) 0 (ln m + 1)) 0 (cells []) := own_made (heap_alloc_new w (.cells (cells (List.replicate (ln m + 1) 0)).toArray 46)) (c := ln m + 1) (n := 0) (by simp) (by omega) (by omega) (base := w.heap.size) (Nat.le_refl _); have HOWN := Hd.mk hown; clear hown; obtain ⟨i0, hi, hz0, hz1, hz2⟩ := info_parts Tryz.info_word; go_enter Tryz.func52, Tryz.ntmps52
 go_wp2
 clear hmk; go_loopw [5, 6, 7] (fun s5 s6 s7 wr => ∃ (v : Value) (k cy : Nat) (ds : List Nat), v = s5 ∧ k ≤ ln m ∧ s7 = .int .i64 k ∧ s6 = .int .u64 ((cy : Nat) : Int) ∧ cy ≤ 1 ∧ ds.length = k ∧ Dg ds ∧ val ds + B ^ k * cy = val ((dig m).take k) + val ((dig n).take k) ∧ wr.ownsRow w.heap.size 46 1 v k (cells ds) ∧ Below w.heap.size w wr) (fun _ _ s7 _ => ln m - (intOf s7).toNat)
 case atStart => exact ⟨_, 0, 0, [], rfl, Nat.zero_le _, rfl, rfl, Nat.zero_le _, rfl, (fun x hx => by cases hx), by simp [val], HOWN.out, below_alloc (Below.refl _ _) _⟩
 case round =>
  obtain ⟨v, k, cy, ds, rfl, hk, rfl, rfl, hcy, hdl, hdd, hval, hown, hbel⟩ := hrel; have HV := Hd.mk hval; have HO := Hd.mk hown; have HL := Hd.mk hdl; have HB := Hd.mk hbel; have HD := Hd.mk hdd; clear hval hown hdl hbel hdd; obtain ⟨dx, hdx⟩ : ∃ dx, dx = (dig m).getD k 0 := ⟨_, rfl⟩; have hdx1 : dx < 4294967296 := by rw [hdx]; exact dg_get (dg_dig _) k
  obtain ⟨dy, hdy⟩ : ∃ dy, dy = (dig n).getD k 0 := ⟨_, rfl⟩; have hdy1 : dy < 4294967296 := by rw [hdy]; exact dg_get (dg_dig _) k
  have HDX := Hd.mk hdx; have HDY := Hd.mk hdy; clear hdx hdy; by_cases hkm : k < ln m
  ·obtain ⟨a1, rfl, hcell1⟩ := (HX.out.to HB.out).at_ hkm; rw [← HDX.out] at hcell1; by_cases hkn : k < ln n
   ·obtain ⟨a2, rfl, hcell2⟩ := (HY.out.to HB.out).at_ hkn; rw [← HDY.out] at hcell2; have HZ := Hd.mk (Nat.le_refl 0); obtain ⟨x, hx⟩ : ∃ x : Nat, x = (dx + dy + cy) % 4294967296 := ⟨_, rfl⟩; obtain ⟨c2, hc2⟩ : ∃ c2 : Nat, c2 = (dx + dy + cy) / 4294967296 := ⟨_, rfl⟩; have hx' : ((cy : Int) + (dx : Int) + (dy : Int)) % 4294967296 = (x : Int) := by have hz := HZ.out; rw [hx]; omega
    have hc' : ((cy : Int) + (dx : Int) + (dy : Int)) / 4294967296 = (c2 : Int) := by have hz := HZ.out; rw [hc2]; omega
    have hxl : x < B := by rw [hx]; exact Nat.mod_lt _ (by decide)
    have hcl : c2 ≤ 1 := by rw [hc2]; omega
    have hstep := add_step (a := dx) (b := dy) HL.out HV.out; rw [← hx, ← hc2, HDX.out, HDY.out, ← val_take_next, ← val_take_next] at hstep; have HS := Hd.mk hstep; clear hx hc2 hstep; go_wp2_with (first | (at_builtin; (refine wpList_append_any _ rfl (.tmp 49) (.tmp 52) 59 rfl w.heap.size 46 i0 (.int .u32 0) 1 4 Tryz.underlying59 hi hz0 hz1 hz2 rfl (by decide) v k (cells ds) rfl (HO.out.alloc _) _ (some ⟨wr.heap.size, 0, none⟩) 1 1 (cells [x]) rfl (reads_new _ _ _) (cells_one _) (by unfold maxLen; omega) (by omega) (by have := HB.out.size; simp; omega) ?_; intro v1 w1 hown1 hg1 hat1)))
    rw [← cells_append] at hown1; go_roundw
    case rel => exact ⟨_, k + 1, c2, ds ++ [x], rfl, by omega, by go_num, rfl, hcl, by rw [List.length_append, HL.out]; rfl, dg_append HD.out (dg_one hxl), HS.out, hown1, (below_alloc HB.out _).grown hg1 (by have := HB.out.size; simp; omega) (own_ge HO.out)⟩
    case measure => simp [intOf]; omega
   have hdy0 : dy = 0 := by rw [HDY.out]; exact getD_zero_of_le (by unfold ln at hkn; omega)
   have HZ := Hd.mk hdy0; clear hdy0; try (exfalso; omega)
   all_goals
    obtain ⟨x, hx⟩ : ∃ x : Nat, x = (dx + dy + cy) % 4294967296 := ⟨_, rfl⟩; obtain ⟨c2, hc2⟩ : ∃ c2 : Nat, c2 = (dx + dy + cy) / 4294967296 := ⟨_, rfl⟩; have hx' : ((cy : Int) + (dx : Int)) % 4294967296 = (x : Int) := by have hz := HZ.out; rw [hx]; omega
    have hc' : ((cy : Int) + (dx : Int)) / 4294967296 = (c2 : Int) := by have hz := HZ.out; rw [hc2]; omega
    have hxl : x < B := by rw [hx]; exact Nat.mod_lt _ (by decide)
    have hcl : c2 ≤ 1 := by rw [hc2]; omega
    have hstep := add_step (a := dx) (b := dy) HL.out HV.out; rw [← hx, ← hc2, HDX.out, HDY.out, ← val_take_next, ← val_take_next] at hstep; have HS := Hd.mk hstep; clear hx hc2 hstep; go_wp2_with (first | (at_builtin; (refine wpList_append_any _ rfl (.tmp 49) (.tmp 52) 59 rfl w.heap.size 46 i0 (.int .u32 0) 1 4 Tryz.underlying59 hi hz0 hz1 hz2 rfl (by decide) v k (cells ds) rfl (HO.out.alloc _) _ (some ⟨wr.heap.size, 0, none⟩) 1 1 (cells [x]) rfl (reads_new _ _ _) (cells_one _) (by unfold maxLen; omega) (by omega) (by have := HB.out.size; simp; omega) ?_; intro v1 w1 hown1 hg1 hat1)))
    rw [← cells_append] at hown1; go_roundw
    case rel => exact ⟨_, k + 1, c2, ds ++ [x], rfl, by omega, by go_num, rfl, hcl, by rw [List.length_append, HL.out]; rfl, dg_append HD.out (dg_one hxl), HS.out, hown1, (below_alloc HB.out _).grown hg1 (by have := HB.out.size; simp; omega) (own_ge HO.out)⟩
    case measure => simp [intOf]; omega
  have hdx0 : dx = 0 := by rw [HDX.out]; exact getD_zero_of_le (by unfold ln at hkm; omega)
  have HZ := Hd.mk hdx0; clear hdx0; by_cases hkn : k < ln n
  ·obtain ⟨a2, rfl, hcell2⟩ := (HY.out.to HB.out).at_ hkn; rw [← HDY.out] at hcell2; try (exfalso; omega)
   all_goals
    obtain ⟨x, hx⟩ : ∃ x : Nat, x = (dx + dy + cy) % 4294967296 := ⟨_, rfl⟩; obtain ⟨c2, hc2⟩ : ∃ c2 : Nat, c2 = (dx + dy + cy) / 4294967296 := ⟨_, rfl⟩; have hx' : ((cy : Int) + (dy : Int)) % 4294967296 = (x : Int) := by have hz := HZ.out; rw [hx]; omega
    have hc' : ((cy : Int) + (dy : Int)) / 4294967296 = (c2 : Int) := by have hz := HZ.out; rw [hc2]; omega
    have hxl : x < B := by rw [hx]; exact Nat.mod_lt _ (by decide)
    have hcl : c2 ≤ 1 := by rw [hc2]; omega
    have hstep := add_step (a := dx) (b := dy) HL.out HV.out; rw [← hx, ← hc2, HDX.out, HDY.out, ← val_take_next, ← val_take_next] at hstep; have HS := Hd.mk hstep; clear hx hc2 hstep; go_wp2_with (first | (at_builtin; (refine wpList_append_any _ rfl (.tmp 49) (.tmp 52) 59 rfl w.heap.size 46 i0 (.int .u32 0) 1 4 Tryz.underlying59 hi hz0 hz1 hz2 rfl (by decide) v k (cells ds) rfl (HO.out.alloc _) _ (some ⟨wr.heap.size, 0, none⟩) 1 1 (cells [x]) rfl (reads_new _ _ _) (cells_one _) (by unfold maxLen; omega) (by omega) (by have := HB.out.size; simp; omega) ?_; intro v1 w1 hown1 hg1 hat1)))
    rw [← cells_append] at hown1; go_roundw
    case rel => exact ⟨_, k + 1, c2, ds ++ [x], rfl, by omega, by go_num, rfl, hcl, by rw [List.length_append, HL.out]; rfl, dg_append HD.out (dg_one hxl), HS.out, hown1, (below_alloc HB.out _).grown hg1 (by have := HB.out.size; simp; omega) (own_ge HO.out)⟩
    case measure => simp [intOf]; omega
  have hke : k = ln m := by omega
  have hv2 : val (ds ++ [cy]) = m + n := by
   rw [val_snoc, HL.out, HV.out, val_take_all (by omega), val_take_all (by omega)]
  have hcyx : (cy : Int) % 4294967296 = (cy : Int) := by omega
  have HC := Hd.mk hv2; have hdd2 : Dg (ds ++ [cy]) := dg_append HD.out (dg_one (by unfold B; omega)); have HD2 := Hd.mk hdd2; have hfin : ln (m + n) ≤ ln m + 1 := Nat.le_trans (ln_add m n) (by omega); have HKE := Hd.mk hke; clear hv2 hdd2 hke hdx1 hdy1; go_wp2_with (first | (at_builtin; (refine wpList_append_any _ rfl (.tmp 56) (.tmp 59) 59 rfl w.heap.size 46 i0 (.int .u32 0) 1 4 Tryz.underlying59 hi hz0 hz1 hz2 rfl (by decide) v k (cells ds) rfl (HO.out.alloc _) _ (some ⟨wr.heap.size, 0, none⟩) 1 1 (cells [cy]) rfl (reads_new _ _ _) (cells_one _) (by unfold maxLen; omega) (by omega) (by have := HB.out.size; simp; omega) ?_; intro v1 w1 hown1 hg1 hat1; rw [← cells_append] at hown1; have hl : (ds ++ [cy]).length = k + 1 := (by rw [List.length_append, HL.out]; rfl); have hown2 : w1.ownsRow w.heap.size 46 1 v1 (ds ++ [cy]).length (cells (ds ++ [cy])) := (by rw [hl]; exact hown1); obtain ⟨A3, c3, hv3, hrn, hc3, hcm⟩ := own_slice hown2; subst hv3; rw [hl] at hc3 ⊢; have HR := Hd.mk hrn; have HT := Hd.mk (trim_calls A3 c3 (ds ++ [cy]) w1 hrn HD2.out (by rw [hl]; exact hc3) hcm); rw [hl, HC.out] at HT; have hb1 := (below_alloc HB.out (.cells #[.int .u32 ((cy : Nat) : Int)] 46)).grown hg1 (by have := HB.out.size; simp; omega) (own_ge HO.out); have HB1 := Hd.mk hb1; clear hrn hl hown1 hown2 hg1 hat1 hb1)) | (go_at_call 81; refine HT.out.mono ?_; rintro e w' ⟨rfl, rfl⟩))
  go_ret
  refine ⟨_, _, rfl, ⟨?_, by omega, hcm⟩, HB1.out⟩; have := HR.out.of_take HD2.out; rwa [HC.out] at this
end Go.Proofs.YtdfhhceboacdcaaGreatDoor
set_option linter.unusedVariables false
namespace Go.Proofs.YtdfhhceboacdcaaGreatDoor
open Go.RowKit
set_option maxRecDepth 100000 in
theorem add_calls (A1 : Option Addr) (c1 m : Nat) (A2 : Option Addr) (c2 n : Nat) (w : World) (h1 : NN w A1 c1 m) (h2 : NN w A2 c2 n) (l1 : ln m ≤ 1073741824) (l2 : ln n ≤ 1073741824) :
  Calls Tryz.prog 46 #[.slice A1 (ln m) c1, .slice A2 (ln n) c2] w (RetN (m + n) w) := by
 by_cases hlt : ln m < ln n
 ·have HX := Hd.mk h2; have HY := Hd.mk h1; clear h1 h2; have hgt := Nat.le_of_not_lt (fun h => by omega : ¬ ln n < ln m); have hmk := fun W => make_words 49 Tryz.underlying49 ((ln n : Int) + 1) (ln n + 1) (by omega) (by omega) W
  go_enter Tryz.func46, Tryz.ntmps46
  go_wp2
  clear hmk; go_loopw [6, 22] (fun s6 s22 wr => ∃ (k cy : Nat) (ds : List Nat), k ≤ ln n ∧ s22 = .int .i64 k ∧ s6 = .int .u32 ((cy : Nat) : Int) ∧ cy ≤ 1 ∧ ds.length = k ∧ Dg ds ∧ val ds + B ^ k * cy = val ((dig n).take k) + val ((dig m).take k) ∧ Blk wr w.heap.size 46 (cells (ds ++ List.replicate (ln n + 1 - k) 0)) ∧ Below w.heap.size w wr) (fun _ s22 _ => ln n - (intOf s22).toNat)
  case atStart => exact ⟨0, 0, [], Nat.zero_le _, rfl, rfl, Nat.zero_le _, rfl, (fun x hx => by cases hx), by simp [val], heap_alloc_new w _, below_alloc (Below.refl _ _) _⟩
  case round =>
   obtain ⟨k, cy, ds, hk, rfl, rfl, hcy, hdl, hdd, hval, hblk, hbel⟩ := hrel; have HV := Hd.mk hval; have HK := Hd.mk hblk; have HL := Hd.mk hdl; have HB := Hd.mk hbel; have HDD := Hd.mk hdd; have hfz := hblk.frozen k; have hck := hblk.at_ (i := k) (by simp; omega); clear hval hblk hdl hbel hdd; by_cases hkl : k < ln n
   ·obtain ⟨a1, rfl, hcell1⟩ := (HX.out.to HB.out).at_ hkl; obtain ⟨dx, hdx⟩ : ∃ dx, dx = (dig n).getD k 0 := ⟨_, rfl⟩; have hdx1 : dx < 4294967296 := by rw [hdx]; exact dg_get (dg_dig _) k
    obtain ⟨dy, hdy⟩ : ∃ dy, dy = (dig m).getD k 0 := ⟨_, rfl⟩; have hdy1 : dy < 4294967296 := by rw [hdy]; exact dg_get (dg_dig _) k
    rw [← hdx] at hcell1; have hz := get_zero ds (ln n + 1 - k) k (by have := HL.out; omega); rw [hz] at hck
    have hrel' : val (ds ++ [(dx + dy + cy) % 4294967296]) + B ^ (k + 1) * ((dx + dy + cy) / 4294967296) = val ((dig n).take (k + 1)) + val ((dig m).take (k + 1)) := by
     rw [val_take_next, val_take_next, ← hdx, ← hdy]; exact add_step HL.out HV.out
    have hput : Blk (wr.setCell ⟨w.heap.size, k, none⟩ (.int .u32 (((dx + dy + cy) % 4294967296 : Nat) : Int))) w.heap.size 46 (cells ((ds ++ [(dx + dy + cy) % 4294967296]) ++ List.replicate (ln n + 1 - (k + 1)) 0)) := by
     have := HK.out.put k ((dx + dy + cy) % 4294967296); rw [← HL.out, set_next ds _ _ (by have := HL.out; omega)] at this; rw [← HL.out]; exact this
    have HR := Hd.mk hrel'; have HP := Hd.mk hput; have HDY := Hd.mk hdy; clear hrel' hput hz hdx; by_cases hkq : k < ln m
    ·obtain ⟨a2, rfl, hcell2⟩ := (HY.out.to HB.out).at_ hkq; rw [← hdy] at hcell2; clear hdy; go_wp2_with (first | (go_at_call 79; refine (add32_calls dx dy cy hdx1 hdy1 hcy _).mono ?_; rintro e w' ⟨rfl, rfl⟩))
     go_roundw
     case rel => exact ⟨k + 1, (dx + dy + cy) / 4294967296, ds ++ [(dx + dy + cy) % 4294967296], by omega, by go_num, rfl, by omega, by rw [List.length_append, HL.out]; rfl, dg_append HDD.out (mod_dg _), HR.out, HP.out, below_set HB.out (Nat.le_refl _) _⟩
     case measure => simp [intOf]; omega
    have hdy0 : dy = 0 := by rw [hdy]; exact getD_zero_of_le (by unfold ln at hkq; omega)
    subst hdy0; clear hdy; go_wp2_with (first | (go_at_call 79; refine (add32_calls dx 0 cy hdx1 hdy1 hcy _).mono ?_; rintro e w' ⟨rfl, rfl⟩))
    go_roundw
    case rel => exact ⟨k + 1, (dx + 0 + cy) / 4294967296, ds ++ [(dx + 0 + cy) % 4294967296], by omega, by go_num, rfl, by omega, by rw [List.length_append, HL.out]; rfl, dg_append HDD.out (mod_dg _), HR.out, HP.out, below_set HB.out (Nat.le_refl _) _⟩
    case measure => simp [intOf]; omega
   have hke : k = ln n := by omega
   subst hke
   have hput : Blk (wr.setCell ⟨w.heap.size, ln n, none⟩ (.int .u32 ((cy : Nat) : Int))) w.heap.size 46 (cells (ds ++ [cy])) := by
    have := HK.out.put (ln n) cy; rw [← HL.out, set_next ds _ _ (by have := HL.out; omega)] at this; rw [← HL.out]; simpa using this
   have hdd2 : Dg (ds ++ [cy]) := dg_append HDD.out (dg_one (by unfold B; omega))
   have hv2 : val (ds ++ [cy]) = m + n := by
    rw [val_snoc, HL.out, HV.out, val_take_all (Nat.le_refl _), val_take_all hgt]
    all_goals omega
   have hlen : (ds ++ [cy]).length = ln n + 1 := by rw [List.length_append, HL.out]; rfl
   have hc := norm_calls (some ⟨w.heap.size, 0, none⟩) (ln n + 1) (ds ++ [cy]) _ hput.reads hdd2 (by omega) (by omega); have hrn := hput.reads.of_take hdd2; rw [hlen, hv2] at hc; rw [hv2] at hrn; have hfin : ln (m + n) ≤ ln n + 1 := Nat.le_trans (ln_add m n) (by omega); have HC := Hd.mk hc; have HRN := Hd.mk hrn; clear hput hdd2 hv2 hlen hc hrn; go_wp2_with (first | (go_at_call 78; refine HC.out.mono ?_; rintro e w' ⟨rfl, rfl⟩))
   go_ret
   exact ⟨_, _, rfl, ⟨HRN.out, hfin, by omega⟩, below_set HB.out (Nat.le_refl _) _⟩
 have HX := Hd.mk h1; have HY := Hd.mk h2; clear h1 h2; have hgt := Nat.le_of_not_lt (fun h => by omega : ¬ ln m < ln n); have hmk := fun W => make_words 49 Tryz.underlying49 ((ln m : Int) + 1) (ln m + 1) (by omega) (by omega) W
 go_enter Tryz.func46, Tryz.ntmps46
 go_wp2
 clear hmk; go_loopw [6, 22] (fun s6 s22 wr => ∃ (k cy : Nat) (ds : List Nat), k ≤ ln m ∧ s22 = .int .i64 k ∧ s6 = .int .u32 ((cy : Nat) : Int) ∧ cy ≤ 1 ∧ ds.length = k ∧ Dg ds ∧ val ds + B ^ k * cy = val ((dig m).take k) + val ((dig n).take k) ∧ Blk wr w.heap.size 46 (cells (ds ++ List.replicate (ln m + 1 - k) 0)) ∧ Below w.heap.size w wr) (fun _ s22 _ => ln m - (intOf s22).toNat)
 case atStart => exact ⟨0, 0, [], Nat.zero_le _, rfl, rfl, Nat.zero_le _, rfl, (fun x hx => by cases hx), by simp [val], heap_alloc_new w _, below_alloc (Below.refl _ _) _⟩
 case round =>
  obtain ⟨k, cy, ds, hk, rfl, rfl, hcy, hdl, hdd, hval, hblk, hbel⟩ := hrel; have HV := Hd.mk hval; have HK := Hd.mk hblk; have HL := Hd.mk hdl; have HB := Hd.mk hbel; have HDD := Hd.mk hdd; have hfz := hblk.frozen k; have hck := hblk.at_ (i := k) (by simp; omega); clear hval hblk hdl hbel hdd; by_cases hkl : k < ln m
  ·obtain ⟨a1, rfl, hcell1⟩ := (HX.out.to HB.out).at_ hkl; obtain ⟨dx, hdx⟩ : ∃ dx, dx = (dig m).getD k 0 := ⟨_, rfl⟩; have hdx1 : dx < 4294967296 := by rw [hdx]; exact dg_get (dg_dig _) k
   obtain ⟨dy, hdy⟩ : ∃ dy, dy = (dig n).getD k 0 := ⟨_, rfl⟩; have hdy1 : dy < 4294967296 := by rw [hdy]; exact dg_get (dg_dig _) k
   rw [← hdx] at hcell1; have hz := get_zero ds (ln m + 1 - k) k (by have := HL.out; omega); rw [hz] at hck
   have hrel' : val (ds ++ [(dx + dy + cy) % 4294967296]) + B ^ (k + 1) * ((dx + dy + cy) / 4294967296) = val ((dig m).take (k + 1)) + val ((dig n).take (k + 1)) := by
    rw [val_take_next, val_take_next, ← hdx, ← hdy]; exact add_step HL.out HV.out
   have hput : Blk (wr.setCell ⟨w.heap.size, k, none⟩ (.int .u32 (((dx + dy + cy) % 4294967296 : Nat) : Int))) w.heap.size 46 (cells ((ds ++ [(dx + dy + cy) % 4294967296]) ++ List.replicate (ln m + 1 - (k + 1)) 0)) := by
    have := HK.out.put k ((dx + dy + cy) % 4294967296); rw [← HL.out, set_next ds _ _ (by have := HL.out; omega)] at this; rw [← HL.out]; exact this
   have HR := Hd.mk hrel'; have HP := Hd.mk hput; have HDY := Hd.mk hdy; clear hrel' hput hz hdx; by_cases hkq : k < ln n
   ·obtain ⟨a2, rfl, hcell2⟩ := (HY.out.to HB.out).at_ hkq; rw [← hdy] at hcell2; clear hdy; go_wp2_with (first | (go_at_call 79; refine (add32_calls dx dy cy hdx1 hdy1 hcy _).mono ?_; rintro e w' ⟨rfl, rfl⟩))
    go_roundw
    case rel => exact ⟨k + 1, (dx + dy + cy) / 4294967296, ds ++ [(dx + dy + cy) % 4294967296], by omega, by go_num, rfl, by omega, by rw [List.length_append, HL.out]; rfl, dg_append HDD.out (mod_dg _), HR.out, HP.out, below_set HB.out (Nat.le_refl _) _⟩
    case measure => simp [intOf]; omega
   have hdy0 : dy = 0 := by rw [hdy]; exact getD_zero_of_le (by unfold ln at hkq; omega)
   subst hdy0; clear hdy; go_wp2_with (first | (go_at_call 79; refine (add32_calls dx 0 cy hdx1 hdy1 hcy _).mono ?_; rintro e w' ⟨rfl, rfl⟩))
   go_roundw
   case rel => exact ⟨k + 1, (dx + 0 + cy) / 4294967296, ds ++ [(dx + 0 + cy) % 4294967296], by omega, by go_num, rfl, by omega, by rw [List.length_append, HL.out]; rfl, dg_append HDD.out (mod_dg _), HR.out, HP.out, below_set HB.out (Nat.le_refl _) _⟩
   case measure => simp [intOf]; omega
  have hke : k = ln m := by omega
  subst hke
  have hput : Blk (wr.setCell ⟨w.heap.size, ln m, none⟩ (.int .u32 ((cy : Nat) : Int))) w.heap.size 46 (cells (ds ++ [cy])) := by
   have := HK.out.put (ln m) cy; rw [← HL.out, set_next ds _ _ (by have := HL.out; omega)] at this; rw [← HL.out]; simpa using this
  have hdd2 : Dg (ds ++ [cy]) := dg_append HDD.out (dg_one (by unfold B; omega))
  have hv2 : val (ds ++ [cy]) = m + n := by
   rw [val_snoc, HL.out, HV.out, val_take_all (Nat.le_refl _), val_take_all hgt]
   all_goals omega
  have hlen : (ds ++ [cy]).length = ln m + 1 := by rw [List.length_append, HL.out]; rfl
  have hc := norm_calls (some ⟨w.heap.size, 0, none⟩) (ln m + 1) (ds ++ [cy]) _ hput.reads hdd2 (by omega) (by omega); have hrn := hput.reads.of_take hdd2; rw [hlen, hv2] at hc; rw [hv2] at hrn; have hfin : ln (m + n) ≤ ln m + 1 := Nat.le_trans (ln_add m n) (by omega); have HC := Hd.mk hc; have HRN := Hd.mk hrn; clear hput hdd2 hv2 hlen hc hrn; go_wp2_with (first | (go_at_call 78; refine HC.out.mono ?_; rintro e w' ⟨rfl, rfl⟩))
  go_ret
  exact ⟨_, _, rfl, ⟨HRN.out, hfin, by omega⟩, below_set HB.out (Nat.le_refl _) _⟩
theorem sub_digit {x y c : Nat} (hx : x < 4294967296) (hy : y < 4294967296) (hc : c ≤ 1) : (4294967296 + x - y - c) % 4294967296 + y + c = x + 4294967296 * (if x < y + c then 1 else 0) := by
 split <;> omega
theorem sub_step {ds : List Nat} {k cy a b X Y : Nat} (hl : ds.length = k) (ha : a < 4294967296) (hb : b < 4294967296) (hc : cy ≤ 1) (h : val ds + Y = X + B ^ k * cy) :
  val (ds ++ [(4294967296 + a - b - cy) % 4294967296]) + (Y + B ^ k * b) = (X + B ^ k * a) + B ^ (k + 1) * (if a < b + cy then 1 else 0) := by
 have e := sub_digit ha hb hc; generalize (4294967296 + a - b - cy) % 4294967296 = d at e ⊢; generalize (if a < b + cy then 1 else 0 : Nat) = z at e ⊢; rw [val_snoc, hl, Nat.pow_succ, Nat.mul_assoc]; have e2 : B ^ k * (d + b + cy) = B ^ k * (a + B * z) := by rw [e]; rfl
 rw [Nat.mul_add, Nat.mul_add, Nat.mul_add] at e2; omega
set_option maxRecDepth 100000 in
theorem sub_calls (A1 : Option Addr) (c1 m : Nat) (A2 : Option Addr) (c2 n : Nat) (w : World) (h1 : NN w A1 c1 m) (h2 : NN w A2 c2 n) (hnm : n ≤ m) (l1 : ln m ≤ 1073741824) :
  Calls Tryz.prog 73 #[.slice A1 (ln m) c1, .slice A2 (ln n) c2] w (RetN (m - n) w) := by
 have HX := Hd.mk h1; have HY := Hd.mk h2; clear h1 h2; have hgt := ln_mono hnm; have hmk := fun W => make_words 49 Tryz.underlying49 (ln m : Int) (ln m) (by omega) (by omega) W
 go_enter Tryz.func73, Tryz.ntmps73
 go_wp2
 clear hmk; go_loopw [6, 14] (fun s6 s22 wr => ∃ (k cy : Nat) (ds : List Nat), k ≤ ln m ∧ s22 = .int .i64 k ∧ s6 = .int .u32 ((cy : Nat) : Int) ∧ cy ≤ 1 ∧ ds.length = k ∧ Dg ds ∧ val ds + val ((dig n).take k) = val ((dig m).take k) + B ^ k * cy ∧ Blk wr w.heap.size 46 (cells (ds ++ List.replicate (ln m - k) 0)) ∧ Below w.heap.size w wr) (fun _ s22 _ => ln m - (intOf s22).toNat)
 case atStart => exact ⟨0, 0, [], Nat.zero_le _, rfl, rfl, Nat.zero_le _, rfl, (fun x hx => by cases hx), by simp [val], heap_alloc_new w _, below_alloc (Below.refl _ _) _⟩
 case round =>
  obtain ⟨k, cy, ds, hk, rfl, rfl, hcy, hdl, hdd, hval, hblk, hbel⟩ := hrel; have HV := Hd.mk hval; have HK := Hd.mk hblk; have HL := Hd.mk hdl; have HB := Hd.mk hbel; have HDD := Hd.mk hdd; have hfz := hblk.frozen k; have hck : k < ln m → _ := fun hh => hblk.at_ (i := k) (by simp; omega)
  clear hval hblk hdl hbel hdd; by_cases hkl : k < ln m
  ·have hck := hck hkl; obtain ⟨a1, rfl, hcell1⟩ := (HX.out.to HB.out).at_ hkl; obtain ⟨dx, hdx⟩ : ∃ dx, dx = (dig m).getD k 0 := ⟨_, rfl⟩; have hdx1 : dx < 4294967296 := by rw [hdx]; exact dg_get (dg_dig _) k
   obtain ⟨dy, hdy⟩ : ∃ dy, dy = (dig n).getD k 0 := ⟨_, rfl⟩; have hdy1 : dy < 4294967296 := by rw [hdy]; exact dg_get (dg_dig _) k
   rw [← hdx] at hcell1; have hz := get_zero ds (ln m - k) k (by have := HL.out; omega); rw [hz] at hck
   have hrel' : val (ds ++ [(4294967296 + dx - dy - cy) % 4294967296]) + val ((dig n).take (k + 1)) = val ((dig m).take (k + 1)) + B ^ (k + 1) * (if dx < dy + cy then 1 else 0) := by
    rw [val_take_next, val_take_next, ← hdx, ← hdy]; exact sub_step HL.out hdx1 hdy1 hcy HV.out
   have hput : Blk (wr.setCell ⟨w.heap.size, k, none⟩ (.int .u32 (((4294967296 + dx - dy - cy) % 4294967296 : Nat) : Int))) w.heap.size 46 (cells ((ds ++ [(4294967296 + dx - dy - cy) % 4294967296]) ++ List.replicate (ln m - (k + 1)) 0)) := by
    have := HK.out.put k ((4294967296 + dx - dy - cy) % 4294967296); rw [← HL.out, set_next ds _ _ (by have := HL.out; omega)] at this; rw [← HL.out]; exact this
   have hb1 : (if dx < dy + cy then 1 else 0 : Nat) ≤ 1 := by split <;> omega
   obtain ⟨bw, hbw⟩ : ∃ bw : Nat, bw = (if dx < dy + cy then 1 else 0 : Nat) := ⟨_, rfl⟩; obtain ⟨dd, hddq⟩ : ∃ dd : Nat, dd = (4294967296 + dx - dy - cy) % 4294967296 := ⟨_, rfl⟩; have hddl : dd < B := by rw [hddq]; exact Nat.mod_lt _ (by decide)
   have HS := Hd.mk (fun W => sub32_calls dx dy cy hdx1 hdy1 hcy W); rw [← hbw, ← hddq] at hrel' HS; rw [← hddq] at hput; rw [← hbw] at hb1; have HR := Hd.mk hrel'; have HP := Hd.mk hput; have HDY := Hd.mk hdy; clear hrel' hput hz hdx hbw hddq; by_cases hkq : k < ln n
   ·obtain ⟨a2, rfl, hcell2⟩ := (HY.out.to HB.out).at_ hkq; rw [← hdy] at hcell2; clear hdy; go_wp2_with (first | (go_at_call 98; refine (HS.out _).mono ?_; rintro e w' ⟨rfl, rfl⟩))
    go_roundw
    case rel => exact ⟨k + 1, bw, ds ++ [dd], by omega, by go_num, rfl, hb1, by rw [List.length_append, HL.out]; rfl, dg_append HDD.out (dg_one hddl), HR.out, HP.out, below_set HB.out (Nat.le_refl _) _⟩
    case measure => simp [intOf]; omega
   have hdy0 : dy = 0 := by rw [hdy]; exact getD_zero_of_le (by unfold ln at hkq; omega)
   subst hdy0; clear hdy; go_wp2_with (first | (go_at_call 98; refine (HS.out _).mono ?_; rintro e w' ⟨rfl, rfl⟩))
   go_roundw
   case rel => exact ⟨k + 1, bw, ds ++ [dd], by omega, by go_num, rfl, hb1, by rw [List.length_append, HL.out]; rfl, dg_append HDD.out (dg_one hddl), HR.out, HP.out, below_set HB.out (Nat.le_refl _) _⟩
   case measure => simp [intOf]; omega
  have hke : k = ln m := by omega
  subst hke
  have hv2 : val ds = m - n := by
   have h1 := HV.out; rw [val_take_all (Nat.le_refl _), val_take_all hgt] at h1; have h2 := val_lt HDD.out; rw [HL.out] at h2; rcases Nat.lt_or_ge cy 1 with h3 | h3
   ·have : cy = 0 := by omega
    subst this; simp at h1; omega
   have : cy = 1 := by omega
   subst this; simp at h1; omega
  have hput : Blk wr w.heap.size 46 (cells ds) := by
   have := HK.out; simpa using this
  have hc := norm_calls (some ⟨w.heap.size, 0, none⟩) (ln m) ds _ hput.reads HDD.out (by have := HL.out; omega) (by omega); have hrn := hput.reads.of_take HDD.out; rw [HL.out, hv2] at hc; rw [hv2] at hrn; have hfin : ln (m - n) ≤ ln m := ln_mono (Nat.sub_le _ _); have HC := Hd.mk hc; have HRN := Hd.mk hrn; clear hput hv2 hc hrn hck; go_wp2_with (first | (go_at_call 78; refine HC.out.mono ?_; rintro e w' ⟨rfl, rfl⟩))
  go_ret
  exact ⟨_, _, rfl, ⟨HRN.out, hfin, by omega⟩, HB.out⟩
theorem sub64_low1 (x c : Nat) (d : Nat) (h : (d : Int) = ((x : Int) - c) % 4294967296) : IntKind.u64.wrap ((x : Int) - c) % 4294967296 = (d : Int) := by
 rw [IntKind.wrap_u64]; omega
theorem sub64_low2 (x c y : Nat) (d : Nat) (h : (d : Int) = ((x : Int) - c - y) % 4294967296) : IntKind.u64.wrap (IntKind.u64.wrap ((x : Int) - c) - y) % 4294967296 = (d : Int) := by
 rw [IntKind.wrap_u64, IntKind.wrap_u64]; omega
theorem sub64_high1 (x c : Nat) (hx : x < 4294967296) (hc : c ≤ 1) (b : Nat) (h : b = if x < c then 1 else 0) : IntKind.u64.wrap ((x : Int) - c) / 9223372036854775808 = (b : Int) := by
 rw [IntKind.wrap_u64, h]; split <;> omega
theorem sub64_high2 (x y c : Nat) (hx : x < 4294967296) (hy : y < 4294967296) (hc : c ≤ 1) (b : Nat) (h : b = if x < y + c then 1 else 0) : IntKind.u64.wrap (IntKind.u64.wrap ((x : Int) - c) - y) / 9223372036854775808 = (b : Int) := by
 rw [IntKind.wrap_u64, IntKind.wrap_u64, h]; split <;> omega
set_option maxRecDepth 100000 in
theorem rless_calls (A1 : Option Addr) (c1 m : Nat) (A2 : Option Addr) (c2 n : Nat) (w : World) (h1 : NN w A1 c1 m) (h2 : NN w A2 c2 n) (hnm : n ≤ m) (l1 : ln m ≤ 1073741824) :
  Calls Tryz.prog 75 #[.slice A1 (ln m) c1, .slice A2 (ln n) c2] w (RetN (m - n) w) := by
 have HX := Hd.mk h1; have HY := Hd.mk h2; clear h1 h2; have hgt := ln_mono hnm; have hmk := fun W => make_words 59 Tryz.underlying59 (ln m : Int) (ln m) (by omega) (by omega) W
 go_enter Tryz.func75, Tryz.ntmps75
 go_wp2
 clear hmk; go_loopw [6, 14] (fun s6 s22 wr => ∃ (k cy : Nat) (ds : List Nat), k ≤ ln m ∧ s22 = .int .i64 k ∧ s6 = .int .u64 ((cy : Nat) : Int) ∧ cy ≤ 1 ∧ ds.length = k ∧ Dg ds ∧ val ds + val ((dig n).take k) = val ((dig m).take k) + B ^ k * cy ∧ Blk wr w.heap.size 46 (cells (ds ++ List.replicate (ln m - k) 0)) ∧ Below w.heap.size w wr) (fun _ s22 _ => ln m - (intOf s22).toNat)
 case atStart => exact ⟨0, 0, [], Nat.zero_le _, rfl, rfl, Nat.zero_le _, rfl, (fun x hx => by cases hx), by simp [val], heap_alloc_new w _, below_alloc (Below.refl _ _) _⟩
 case round =>
  obtain ⟨k, cy, ds, hk, rfl, rfl, hcy, hdl, hdd, hval, hblk, hbel⟩ := hrel; have HV := Hd.mk hval; have HK := Hd.mk hblk; have HL := Hd.mk hdl; have HB := Hd.mk hbel; have HDD := Hd.mk hdd; have hfz := hblk.frozen k; have hck : k < ln m → _ := fun hh => hblk.at_ (i := k) (by simp; omega)
  clear hval hblk hdl hbel hdd; by_cases hkl : k < ln m
  ·have hck := hck hkl; obtain ⟨a1, rfl, hcell1⟩ := (HX.out.to HB.out).at_ hkl; obtain ⟨dx, hdx⟩ : ∃ dx, dx = (dig m).getD k 0 := ⟨_, rfl⟩; have hdx1 : dx < 4294967296 := by rw [hdx]; exact dg_get (dg_dig _) k
   obtain ⟨dy, hdy⟩ : ∃ dy, dy = (dig n).getD k 0 := ⟨_, rfl⟩; have hdy1 : dy < 4294967296 := by rw [hdy]; exact dg_get (dg_dig _) k
   rw [← hdx] at hcell1; have hz := get_zero ds (ln m - k) k (by have := HL.out; omega); rw [hz] at hck
   have hrel' : val (ds ++ [(4294967296 + dx - dy - cy) % 4294967296]) + val ((dig n).take (k + 1)) = val ((dig m).take (k + 1)) + B ^ (k + 1) * (if dx < dy + cy then 1 else 0) := by
    rw [val_take_next, val_take_next, ← hdx, ← hdy]; exact sub_step HL.out hdx1 hdy1 hcy HV.out
   have hput : Blk (wr.setCell ⟨w.heap.size, k, none⟩ (.int .u32 (((4294967296 + dx - dy - cy) % 4294967296 : Nat) : Int))) w.heap.size 46 (cells ((ds ++ [(4294967296 + dx - dy - cy) % 4294967296]) ++ List.replicate (ln m - (k + 1)) 0)) := by
    have := HK.out.put k ((4294967296 + dx - dy - cy) % 4294967296); rw [← HL.out, set_next ds _ _ (by have := HL.out; omega)] at this; rw [← HL.out]; exact this
   have hb1 : (if dx < dy + cy then 1 else 0 : Nat) ≤ 1 := by split <;> omega
   obtain ⟨bw, hbw⟩ : ∃ bw : Nat, bw = (if dx < dy + cy then 1 else 0 : Nat) := ⟨_, rfl⟩; obtain ⟨dd, hddq⟩ : ∃ dd : Nat, dd = (4294967296 + dx - dy - cy) % 4294967296 := ⟨_, rfl⟩; have hddl : dd < B := by rw [hddq]; exact Nat.mod_lt _ (by decide)
   rw [← hbw, ← hddq] at hrel'; rw [← hddq] at hput; rw [← hbw] at hb1; have hhi := sub64_high2 dx dy cy hdx1 hdy1 hcy bw hbw; have hlo := sub64_low2 dx cy dy dd (by omega); have hhi1 := fun h0 : dy = 0 => sub64_high1 dx cy hdx1 hcy bw (by rw [hbw, h0]; simp)
   have hlo1 := fun h0 : dy = 0 => sub64_low1 dx cy dd (by omega)
   have HR := Hd.mk hrel'; have HP := Hd.mk hput; have HDY := Hd.mk hdy; clear hrel' hput hz hdx hbw hddq; by_cases hkq : k < ln n
   ·obtain ⟨a2, rfl, hcell2⟩ := (HY.out.to HB.out).at_ hkq; rw [← hdy] at hcell2; clear hdy; clear hhi1 hlo1; go_wp2_with fail
    go_roundw
    case rel => exact ⟨k + 1, bw, ds ++ [dd], by omega, by go_num, rfl, hb1, by rw [List.length_append, HL.out]; rfl, dg_append HDD.out (dg_one hddl), HR.out, HP.out, below_set HB.out (Nat.le_refl _) _⟩
    case measure => simp [intOf]; omega
   have hdy0 : dy = 0 := by rw [hdy]; exact getD_zero_of_le (by unfold ln at hkq; omega)
   have hhi2 := hhi1 hdy0; have hlo2 := hlo1 hdy0; clear hdy hdy0 hhi hlo hhi1 hlo1; go_wp2_with fail
   go_roundw
   case rel => exact ⟨k + 1, bw, ds ++ [dd], by omega, by go_num, rfl, hb1, by rw [List.length_append, HL.out]; rfl, dg_append HDD.out (dg_one hddl), HR.out, HP.out, below_set HB.out (Nat.le_refl _) _⟩
   case measure => simp [intOf]; omega
  have hke : k = ln m := by omega
  subst hke
  have hv2 : val ds = m - n := by
   have h1 := HV.out; rw [val_take_all (Nat.le_refl _), val_take_all hgt] at h1; have h2 := val_lt HDD.out; rw [HL.out] at h2; rcases Nat.lt_or_ge cy 1 with h3 | h3
   ·have : cy = 0 := by omega
    subst this; simp at h1; omega
   have : cy = 1 := by omega
   subst this; simp at h1; omega
  have hput : Blk wr w.heap.size 46 (cells ds) := by
   have := HK.out; simpa using this
  have hc := trim_calls (some ⟨w.heap.size, 0, none⟩) (ln m) ds _ hput.reads HDD.out (by have := HL.out; omega) (by omega); have hrn := hput.reads.of_take HDD.out; rw [HL.out, hv2] at hc; rw [hv2] at hrn; have hfin : ln (m - n) ≤ ln m := ln_mono (Nat.sub_le _ _); have HC := Hd.mk hc; have HRN := Hd.mk hrn; clear hput hv2 hc hrn hck; go_wp2_with (first | (go_at_call 81; refine HC.out.mono ?_; rintro e w' ⟨rfl, rfl⟩))
  go_ret
  exact ⟨_, _, rfl, ⟨HRN.out, hfin, by omega⟩, HB.out⟩
end Go.Proofs.YtdfhhceboacdcaaGreatDoor
