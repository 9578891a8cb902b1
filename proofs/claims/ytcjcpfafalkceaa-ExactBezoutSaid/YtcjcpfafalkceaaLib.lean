/- Words for memory: slices of 32-bit digits that are read, and what is kept of them. -/
import Derived.Test.YtcjcpfafalkceaaProg
import Derived.Test.YtcjcpfafalkceaaNat
import Derived.Below
import Derived.WalkKit
import Derived.WalkSpells
import Derived.OwnWalk
import Derived.Deep.Draws
import Derived.Deep.LoopGhost
import Derived.Deep.RegionHeld3
import Derived.Deep.DeepCutAuto
import Derived.Deep.QuietTactic
import Derived.BigQuiet
import Derived.IntWalk
import Derived.StillTailTactics
import Derived.Laws.MakeOwn
import Derived.Laws.Entries
import Derived.Laws.BitsAllLaws
import Derived.Laws.BitsLemmas
import Derived.KernelRfl
import Derived.Outline
set_option linter.unusedVariables false
namespace Go.Proofs.Ytcjcpfafalkceaa
open Go.RowKit
/-- A fact that the walk does not look into. -/
structure Hd (p : Prop) : Prop where mk :: (out : p)
theorem ret_bool {a b : Bool} (h : a = b) : Ending.returned (.bool a) = .returned (.bool b) := by rw [h]
theorem ret_int {k : IntKind} {a b : Int} (h : a = b) : Ending.returned (.int k a) = .returned (.int k b) := by rw [h]
/-- What a callee leaves: all that was there reads as before. -/
theorem bcell {W w1 : World} (hb : Below W.heap.size W w1) : (∀ b o, b < W.heap.size → w1.cell? ⟨b, o, none⟩ = W.cell? ⟨b, o, none⟩) ∧ (∀ b o, b < W.heap.size → w1.frozen? ⟨b, o, none⟩ = W.frozen? ⟨b, o, none⟩) :=
  ⟨fun b o h => hb.cell (p := ⟨b, o, none⟩) h, fun b o h => hb.frozen (p := ⟨b, o, none⟩) h⟩
theorem below_alloc {w W : World} (h : Below w.heap.size w W) (o : Obj) : Below w.heap.size w (W.alloc o) := h.alloc h.size o
theorem below_drewN {B : Nat} {w W : World} (h : Below B w W) (n : Nat) : Below B w (W.drewN n) := ⟨h.os, h.tape, h.output, h.size, h.block⟩
theorem below_drew {B : Nat} {w W : World} (h : Below B w W) : Below B w W.drew := ⟨h.os, h.tape, h.output, h.size, h.block⟩
theorem below_then {B : Nat} {w w1 w2 : World} (h : Below B w w1) (hB : B ≤ w1.heap.size) (k : Below w1.heap.size w1 w2) : Below B w w2 :=
  h.trans ⟨k.os, k.tape, k.output, k.size, fun i hi => k.block i (Nat.lt_of_lt_of_le hi hB)⟩
theorem bel_then {w w1 w2 : World} (h : Below w.heap.size w w1) (k : Below w1.heap.size w1 w2) : Below w.heap.size w w2 := below_then h h.size k
/-- A slice's cells read as these digits. -/
def RN (w : World) (A : Option Addr) (xs : List Nat) : Prop :=
  0 < xs.length → ∃ ad : Addr, A = some ad ∧ ∀ j, j < xs.length → w.cell? (ad.add j) = some (.int .u32 ((xs.getD j 0 : Nat) : Int))
theorem block_add (a : Addr) (n : Nat) : (a.add n).block = a.block := by unfold Addr.add; split <;> rfl
theorem add_add (a : Addr) (i j : Nat) : (a.add i).add j = a.add (i + j) := by
  unfold Addr.add
  by_cases hi : i = 0 <;> by_cases hj : j = 0 <;> simp [hi, hj, Nat.add_assoc]
theorem RN.nil (w : World) (A : Option Addr) : RN w A [] := fun h => absurd h (by simp)
theorem RN.to {w w' : World} {A : Option Addr} {xs : List Nat} (h : RN w A xs) (hb : Below w.heap.size w w') : RN w' A xs := fun hn => by
  obtain ⟨ad, e, hc⟩ := h hn
  exact ⟨ad, e, fun j hj => (hb.cell (World.block_lt_of_cell? w _ (hc j hj))).trans (hc j hj)⟩
theorem RN.take {w : World} {A : Option Addr} {xs : List Nat} (h : RN w A xs) (k : Nat) : RN w A (xs.take k) := fun hn => by
  obtain ⟨ad, e, hc⟩ := h (by rw [List.length_take] at hn; omega)
  refine ⟨ad, e, fun j hj => ?_⟩
  rw [List.length_take] at hj
  rw [hc j (by omega), List.getD_eq_getElem?_getD, List.getD_eq_getElem?_getD, List.getElem?_take, if_pos (by omega)]
theorem RN.at_ {w : World} {A : Option Addr} {xs : List Nat} (h : RN w A xs) {k : Nat} (hk : k < xs.length) : ∃ ad, A = some ad ∧ w.cell? (ad.add k) = some (.int .u32 ((xs.getD k 0 : Nat) : Int)) := by
  obtain ⟨ad, e, hc⟩ := h (by omega)
  exact ⟨ad, e, hc k hk⟩
/-- A slice value (its address, its capacity) of the digits of a number. -/
def NN (w : World) (A : Option Addr) (c n : Nat) : Prop := RN w A (dig n) ∧ ln n ≤ c ∧ c ≤ 9223372036854775807
theorem NN.to {w w' : World} {A : Option Addr} {c n : Nat} (h : NN w A c n) (hb : Below w.heap.size w w') : NN w' A c n := ⟨h.1.to hb, h.2⟩
theorem NN.at_ {w : World} {A : Option Addr} {c n : Nat} (h : NN w A c n) {k : Nat} (hk : k < ln n) : ∃ ad, A = some ad ∧ w.cell? (ad.add k) = some (.int .u32 (((dig n).getD k 0 : Nat) : Int)) := h.1.at_ hk
theorem NN.nil (w : World) (A : Option Addr) (c : Nat) (hc : c ≤ 9223372036854775807) : NN w A c 0 := ⟨by rw [dig_zero]; exact RN.nil _ _, by rw [ln_zero]; omega, hc⟩
/-- What a call leaves that hands back a number. -/
def RetN (n : Nat) (w : World) (e : Ending) (w' : World) : Prop := ∃ A c, e = .returned (.slice A (ln n) c) ∧ NN w' A c n ∧ Below w.heap.size w w'
/-! A block that is known whole. -/
def Blk (w : World) (g : Nat) (t : TypeId) (cs : List Value) : Prop := w.heap[g]? = some (.cells cs.toArray t (0, 0))
section
variable {w w' : World} {g : Nat} {t : TypeId} {cs : List Value}
theorem Blk.lt (h : Blk w g t cs) : g < w.heap.size := by
  rcases Nat.lt_or_ge g w.heap.size with hlt | hge
  · exact hlt
  · unfold Blk at h; rw [Array.getElem?_eq_none hge] at h; cases h
theorem Blk.cell (h : Blk w g t cs) (i : Nat) : w.cell? ⟨g, i, none⟩ = cs[i]? := by
  rw [cell_of_row w g i cs.toArray t (0, 0) h]; simp
theorem Blk.frozen (h : Blk w g t cs) (i : Nat) : w.frozen? ⟨g, i, none⟩ = false := by
  unfold Blk at h
  simp [World.frozen?, h]
theorem Blk.drew (h : Blk w g t cs) : Blk w.drew g t cs := h
theorem Blk.drewN (h : Blk w g t cs) (n : Nat) : Blk (w.drewN n) g t cs := h
theorem Blk.alloc (h : Blk w g t cs) (o : Obj) : Blk (w.alloc o) g t cs := (Below.heap_alloc w o g h.lt).trans h
theorem Blk.set_ (h : Blk w g t cs) (i : Nat) (u : Value) : Blk (w.setCell ⟨g, i, none⟩ u) g t (cs.set i u) := by
  unfold Blk at h ⊢
  simp [World.setCell, Array.getElem?_modify, h]
theorem Blk.far (h : Blk w g t cs) {p : Addr} (hp : g ≠ p.block) (u : Value) : Blk (w.setCell p u) g t cs := (Below.heap_setCell w p u g hp).trans h
theorem Blk.to (h : Blk w g t cs) (hb : Below w.heap.size w w') : Blk w' g t cs := (hb.block g h.lt).trans h
end
/-- Digits, and zeros behind them. -/
def cells (ds : List Nat) : List Value := ds.map fun x => Value.int .u32 ((x : Nat) : Int)
theorem cells_length (ds : List Nat) : (cells ds).length = ds.length := by simp [cells]
theorem cells_get (ds : List Nat) {i : Nat} (h : i < ds.length) : (cells ds)[i]? = some (.int .u32 ((ds.getD i 0 : Nat) : Int)) := by
  simp [cells, h]
theorem cells_set (ds : List Nat) (i x : Nat) : (cells ds).set i (.int .u32 ((x : Nat) : Int)) = cells (ds.set i x) := by
  simp [cells]
theorem Blk.reads {w : World} {g : Nat} {t : TypeId} {ds : List Nat} (h : Blk w g t (cells ds)) : RN w (some ⟨g, 0, none⟩) ds := fun _ => ⟨_, rfl, fun j hj => by
  have := h.cell j
  rw [cells_get ds hj] at this
  rw [← this]
  have e : (⟨g, 0, none⟩ : Addr).add j = ⟨g, j, none⟩ := by
    unfold Addr.add
    split
    · next h => rw [h]
    · simp
  rw [e]⟩
theorem below_set {B : Nat} {w W : World} (h : Below B w W) {g i : Nat} (hg : B ≤ g) (u : Value) : Below B w (W.setCell ⟨g, i, none⟩ u) := h.setCell (p := ⟨g, i, none⟩) hg u
theorem RN.of_take {w : World} {A : Option Addr} {xs : List Nat} (h : RN w A xs) (hd : Dg xs) : RN w A (dig (val xs)) := by
  have key : ∃ k, k ≤ xs.length ∧ dig (val xs) = xs.take k := by
    have : ∀ m, m ≤ xs.length → val (xs.take m) = val xs → ∃ k, k ≤ xs.length ∧ dig (val xs) = xs.take k := by
      intro m
      induction m with
      | zero => exact fun h0 hv => ⟨0, h0, dig_take hd h0 hv (fun j hj => by omega)⟩
      | succ m ih =>
        intro hm hv
        by_cases hz : xs.getD m 0 = 0
        · refine ih (by omega) ?_
          rw [← hv, val_take_succ (by omega), hz]; simp
        · exact ⟨m + 1, hm, dig_take hd hm hv (fun j hj => by rw [show j = m from by omega]; exact hz)⟩
    exact this xs.length (Nat.le_refl _) (by rw [List.take_length])
  obtain ⟨k, hk, e⟩ := key
  rw [e]
  exact h.take k
theorem zeros_cells (n : Nat) : List.replicate n (Value.int .u32 0) = cells (List.replicate n 0) := by simp [cells]
theorem cells_append (a b : List Nat) : cells (a ++ b) = cells a ++ cells b := by simp [cells]
theorem Blk.at_ {w : World} {g : Nat} {t : TypeId} {ds : List Nat} (h : Blk w g t (cells ds)) {i : Nat} (hi : i < ds.length) : w.cell? ⟨g, i, none⟩ = some (.int .u32 ((ds.getD i 0 : Nat) : Int)) := by
  rw [h.cell, cells_get ds hi]
theorem Blk.put {w : World} {g : Nat} {t : TypeId} {ds : List Nat} (h : Blk w g t (cells ds)) (i x : Nat) : Blk (w.setCell ⟨g, i, none⟩ (.int .u32 ((x : Nat) : Int))) g t (cells (ds.set i x)) := by
  rw [← cells_set]; exact h.set_ i _
theorem Try.info_word : (Try.prog.info? 72).map (fun i => (i.zero, i.size, i.bytes)) = some (some (.int .u32 0), 1, 4) := by kernel_rfl
set_option maxRecDepth 100000 in
/-- 'make([]uint32, n)', whatever the slice type's name. -/
theorem make_words (t : TypeId) (ht : Try.prog.underlying t = some (.slice 72)) (z : Int) (n : Nat) (hz : z = (n : Int)) (hn : n ≤ 35184372088832) (w : World) :
    (Instr.makeSlice t (.int .i64 z) (.int .i64 z)).run Try.prog w = .ok (.slice (some ⟨w.heap.size, 0, none⟩) n n) (w.alloc (.cells (cells (List.replicate n 0)).toArray 72)) := by
  obtain ⟨i0, hi, hz0, hz1, hz2⟩ := info_parts Try.info_word
  subst hz
  have hb : (i0.bytes : Int) * (n : Int) ≤ 281474976710656 := by rw [hz2]; omega
  have hr := run_make (P := Try.prog) w t 72 i0 (.int .u32 0) ht hi hz0 .i64 .i64 n n (by omega) (by omega) hb (by omega)
  simp only [Int.toNat_natCast] at hr
  rw [hr]
  congr 3
  rw [← zeros_cells, hz1]
  apply Array.ext
  · simp [madeCells]
  · intro i h1 h2
    simp [madeCells, Value.cells, Nat.mod_one]
/-- A whole number as a value: its sign, its digits. -/
def Zv (z : Int) (A : Option Addr) (c : Nat) : Value := .agg #[.bool (decide (z < 0)), .slice A (ln z.natAbs) c]
/-- What a call leaves that hands back a whole number. -/
def RetZ (z : Int) (w : World) (e : Ending) (w' : World) : Prop := ∃ A c, e = .returned (.agg #[.bool (decide (z < 0)), .slice A (ln z.natAbs) c]) ∧ NN w' A c z.natAbs ∧ Below w.heap.size w w'
theorem NN.set_ {w : World} {A : Option Addr} {c n : Nat} (h : NN w A c n) {p : Addr} {v : Value} (hp : w.cell? p = some v) (hv : ∀ x : Int, v ≠ .int .u32 x) (u : Value) : NN (w.setCell p u) A c n :=
  ⟨fun hn => by
    obtain ⟨ad, e, hc⟩ := h.1 hn
    exact ⟨ad, e, fun j hj => (World.cell?_setCell_other w p _ u (fun e2 => hv _ (Option.some.inj (hp.symm.trans ((congrArg w.cell? e2).trans (hc j hj)))))).trans (hc j hj)⟩, h.2⟩
/-- A struct of two cells is stored. -/
theorem two_set {w1 : World} {g : Nat} {x0 x1 : Value} (h0 : w1.cell? ⟨g, 0, none⟩ = some x0) (h1 : w1.cell? ⟨g, 1, none⟩ = some x1) (u v : Value) :
    ((w1.setCell ⟨g, 0, none⟩ u).setCell ⟨g, 1, none⟩ v).cell? ⟨g, 0, none⟩ = some u ∧ ((w1.setCell ⟨g, 0, none⟩ u).setCell ⟨g, 1, none⟩ v).cell? ⟨g, 1, none⟩ = some v ∧ (w1.setCell ⟨g, 0, none⟩ u).cell? ⟨g, 1, none⟩ = some x1 := by
  have e1 : (w1.setCell ⟨g, 0, none⟩ u).cell? ⟨g, 1, none⟩ = some x1 := (World.cell?_setCell_other _ _ _ _ (by simp)).trans h1
  exact ⟨(World.cell?_setCell_other _ _ _ _ (by simp)).trans (World.cell?_setCell_same _ _ _ h0), World.cell?_setCell_same _ _ _ e1, e1⟩
/-- A region that draws its order, reads, and stores at its end: the order of the text serves. -/
theorem wp_still_tail {P : Program} {id : Nat} {Q : Exit → Act → World → Prop} {a : Act} {w : World} {l : List Oper} (n : Nat) (hm : P.follows .mixedOrders = true) (hB : Region.lexTailB .any l.toArray n = true)
    (h : ∀ w2, w2 = w.drew → wpStill P l.toArray w2 (fun a' => wpList P l.toArray Q (l.drop n) a' w2) (l.take n) a) : (Code.region id l.toArray true).wp P Q a w := wp_region_still_tail n hm hB (h _ rfl)
theorem blk_third (w : World) (o1 o2 : Obj) (cs : List Value) (t : TypeId) : Blk (((w.alloc o1).alloc o2).alloc (.cells cs.toArray t)) (w.heap.size + 1 + 1) t cs := by
  have h : ((w.alloc o1).alloc o2).heap.size = w.heap.size + 1 + 1 := by simp
  unfold Blk
  rw [← h]
  exact heap_alloc_new _ _
/-- What a call leaves that hands back a whole number and an error's code. -/
def RetZE (z err : Int) (w : World) (e : Ending) (w' : World) : Prop := ∃ A c, e = .returned (.tuple #[.agg #[.bool (decide (z < 0)), .slice A (ln z.natAbs) c], .int .i64 err]) ∧ NN w' A c z.natAbs ∧ Below w.heap.size w w'
/-- A number, if it has at most 256 words; and the code. -/
def fitz (z : Int) : Int := if ln z.natAbs ≤ 256 then z else 0
def fite (z : Int) : Int := if ln z.natAbs ≤ 256 then 0 else 5
theorem blk_second (w : World) (o1 : Obj) (cs : List Value) (t : TypeId) : Blk ((w.alloc o1).alloc (.cells cs.toArray t)) (w.heap.size + 1) t cs := by
  have h : (w.alloc o1).heap.size = w.heap.size + 1 := by simp
  unfold Blk
  rw [← h]
  exact heap_alloc_new _ _
end Go.Proofs.Ytcjcpfafalkceaa
