/- Part 17 of the texts behind this claim. -/
import Derived.Test.YtddbmckbankmeaaKa16
set_option linter.unusedVariables false
set_option linter.unusedSimpArgs false
namespace Go.Proofs.Ytddbmckbankmeaa
open Go.RowKit
structure Sl where
  A : Option Addr
  k : Nat
  xs : List Int
instance : Inhabited Sl := ⟨⟨none, 0, []⟩⟩
def Sl.ok (w : World) (s : Sl) : Prop := CellsI w s.A s.xs ∧ s.xs.length ≤ 1000000
def encT (W H : Int) (s : Sl) : List Value := [.int .i64 W, .int .i64 H, .slice s.A s.xs.length s.k]
instance : Inhabited Mv := ⟨⟨0, 0, 0, false⟩⟩
theorem CellsI.ne {w : World} {A : Option Addr} {ys : List Int} {g : Nat} {t : TypeId} {us : List Value} (h : CellsI w A ys) (hb : Blk w g t us) (ht : t ≠ 3) : ∀ ad, A = some ad → ad.block ≠ g ∧ ad.block < w.heap.size := fun ad e => by
  obtain ⟨cur, hc⟩ := h.2 ad e
  have hlt : ad.block < w.heap.size := (Array.getElem?_eq_some_iff.1 hc).1
  refine ⟨fun e2 => ?_, hlt⟩
  rw [e2] at hc
  unfold Blk at hb
  rw [hb] at hc
  injection hc with hc
  injection hc with _ hc
  exact ht hc
theorem CellsI.by_ {w w' : World} {A : Option Addr} {ys : List Int} {g : Nat} (h : CellsI w A ys) (hg : w.grownBy w' (some g)) (hne : ∀ ad, A = some ad → ad.block ≠ g) : CellsI w' A ys := by
  have key : ∀ ad, A = some ad → w'.heap[ad.block]? = w.heap[ad.block]? := fun ad e => by
    obtain ⟨cur, hc⟩ := h.2 ad e
    exact hg.block _ (Array.getElem?_eq_some_iff.1 hc).1 (fun e2 => hne ad e (Option.some.inj e2))
  refine ⟨fun hn => ?_, fun ad e => ?_⟩
  · obtain ⟨ad, e, hc⟩ := h.1 hn
    refine ⟨ad, e, fun j hj => ?_⟩
    have hk : w'.cell? (ad.add j) = w.cell? (ad.add j) := World.cell?_of_block (by rw [block_of_add]; exact key ad e)
    rw [hk]
    exact hc j hj
  obtain ⟨cur, hc⟩ := h.2 ad e
  exact ⟨cur, (key ad e).trans hc⟩
section
variable {α : Type} [Inhabited α]
theorem perm_list {d d' : Array α} (h : Go.Sort.PermIn 0 d.size d d') : d'.toList.Perm d.toList := by
  have h2 := h.2.2
  have e1 : d.extract 0 d.size = d := by simp
  have e2 : d'.extract 0 d.size = d' := by rw [← h.1]; simp
  rw [e1, e2] at h2
  exact h2
theorem sorted_list {d d' : Array α} {lt : α → α → Bool} (h : Go.Sort.SortedIn lt 0 d.size d') (hs : d'.size = d.size) : d'.toList.Pairwise (fun a b => lt b a = false) := by
  rw [List.pairwise_iff_getElem]
  intro i j hi hj hij
  have h1 := h i j (Nat.zero_le _) hij (by simpa [hs] using hj)
  simp only [Array.length_toList] at hi hj
  rw [getElem!_pos _ i hi, getElem!_pos _ j hj] at h1
  simpa using h1
end
set_option maxRecDepth 100000 in
set_option maxHeartbeats 1000000 in
theorem sortT_calls (W H : Int) (g cap : Nat) (ts : List Sl) (rest : List Value) (w : World) (hb : Blk w g 27 (ts.flatMap (encT W H) ++ rest)) (hok : ∀ s ∈ ts, s.ok w) (hl : ts.length ≤ 1000000) :
    Calls Try.prog 77 #[.slice (some ⟨g, 0, none⟩) ts.length cap, .func (.func 76) #[] #[]] w fun e w' => e = .returned (.tuple #[]) ∧
      ∃ ts' : List Sl, ts'.Perm ts ∧ ts'.Pairwise (fun a b => cmpL a.xs b.xs ≤ 0) ∧ Blk w' g 27 (ts'.flatMap (encT W H) ++ rest) ∧ w.grownBy w' (some g) := by
  have hne : ∀ s : Sl, s.ok w → ∀ ad, s.A = some ad → ad.block ≠ g ∧ ad.block < w.heap.size := fun s hs => hs.1.ne hb (by decide)
  letI : Inhabited {s : Sl // s.ok w} := ⟨⟨⟨none, 0, []⟩, ⟨RI.nil _ _, fun ad e => by cases e⟩, by simp⟩⟩
  have hk : ∀ x : {s : Sl // s.ok w}, (encT W H x.1).length = 3 := fun _ => rfl
  let d : Array {s : Sl // s.ok w} := (ts.pmap Subtype.mk hok).toArray
  have hd : d.toList.map Subtype.val = ts := by
    show ((ts.pmap Subtype.mk hok).toArray.toList).map _ = _
    rw [List.toList_toArray, List.map_pmap]
    simp
  have hfl : ∀ d : Array {s : Sl // s.ok w}, d.toList.flatMap (fun x => encT W H x.1) = (d.toList.map Subtype.val).flatMap (encT W H) := fun d => by rw [List.flatMap_map]
  have hds : d.size = ts.length := by show (ts.pmap Subtype.mk hok).toArray.size = _; simp
  have hB : Blk w g 27 (d.toList.flatMap (fun x => encT W H x.1) ++ rest) := by rw [hfl, hd]; exact hb
  have hO : Go.Sort.SWO (ltOf (fun x y : {s : Sl // s.ok w} => cmpL x.1.xs y.1.xs)) := swo_of _ (fun x y => cmpL_neg _ _) (fun x y z h => by rw [cmpL_zero h]; exact ⟨rfl, rfl⟩) (fun x y z h k => cmpL_trans h k)
  have hcmp : CmpLays Try.prog 76 #[] (fun x : {s : Sl // s.ok w} => encT W H x.1) 3 (fun x y => cmpL x.1.xs y.1.xs) g 0 d.size w := by
    intro m os dk hdk x y
    have hri : ∀ x : {s : Sl // s.ok w}, RI (sortWorldK (fun x : {s : Sl // s.ok w} => encT W H x.1) 3 w g 0 m dk os) x.1.A x.1.xs := fun x => (x.2.1.by_ grownBy_sortK (fun ad e => (hne _ x.2 ad e).1)).1
    have hx := x.2.2
    have hy := y.2.2
    have h := compare_x W H W H x.1.A y.1.A x.1.k y.1.k x.1.xs y.1.xs _ (hri x) (hri y) (by omega) (by omega)
    rw [ordT_same] at h
    refine h.mono ?_
    rintro e w' ⟨v, he, hbl, hv⟩
    exact ⟨by rw [he, show v = _ from hv], hbl.grow⟩
  have h := AnyQ.slices_SortFunc Try.sortT 3 Try.isAgg27 Try.sizeOf27 (fun x : {s : Sl // s.ok w} => encT W H x.1) hk (fun x v hv => by
    unfold encT at hv
    simp at hv
    rcases hv with rfl | rfl | rfl <;> rfl) (fun x y => cmpL x.1.xs y.1.xs) hO 76 #[] g 0 cap d w Try.call76 hcmp (holdsK_blk hk hB) hb.lt (by rw [hds]; omega)
  rw [hds] at h
  refine Calls.mono h ?_
  rintro e w' ⟨he, d', n, os, hp, hs, rfl⟩
  rw [← hds] at hp hs
  refine ⟨he, d'.toList.map Subtype.val, ?_, ?_, ?_, grownBy_sortK⟩
  · rw [← hd]
    exact (perm_list hp).map _
  · rw [List.pairwise_map]
    refine (sorted_list hs hp.1).imp (fun {a b} h => ?_)
    unfold ltOf at h
    simp at h
    rw [cmpL_neg]
    omega
  rw [← hfl]
  exact sorted_blk hk hB hp.1
end Go.Proofs.Ytddbmckbankmeaa
set_option linter.unusedVariables false
set_option linter.unusedSimpArgs false
set_option linter.unusedSectionVars false
set_option linter.unnecessarySimpa false
namespace Go.Proofs.Ytddbmckbankmeaa
open Go.RowKit
section
variable {w w' : World} {g o : Nat} {t : TypeId} {W H : Int} {ts : List Sl} {rest cs us : List Value} {s : Sl} {j : Nat}
theorem encT_len (W H : Int) (s : Sl) : (encT W H s).length = 3 := rfl
theorem tcells_at : ∀ {ts : List Sl} {j : Nat} {s : Sl}, ts[j]? = some s → ∀ q, q < 3 → (ts.flatMap (encT W H) ++ rest)[j * 3 + q]? = (encT W H s)[q]?
  | [], _, _, h, _, _ => by cases h
  | a :: ts, 0, s, h, q, hq => by
    obtain rfl : a = s := by simpa using h
    rw [List.flatMap_cons, List.append_assoc, List.getElem?_append_left (by rw [encT_len]; omega), Nat.zero_mul, Nat.zero_add]
  | a :: ts, j + 1, s, h, q, hq => by
    have h' : ts[j]? = some s := by simpa using h
    rw [List.flatMap_cons, List.append_assoc, List.getElem?_append_right (by rw [encT_len]; omega), encT_len, show (j + 1) * 3 + q - 3 = j * 3 + q by omega]
    exact tcells_at h' q hq
theorem tcell_ld (h : Blk w g t (ts.flatMap (encT W H) ++ rest)) (hj : ts[j]? = some s) :
    w.cell? ⟨g, j * 3, none⟩ = some (.int .i64 W) ∧ w.cell? ⟨g, j * 3 + 1, none⟩ = some (.int .i64 H) ∧ w.cell? ⟨g, j * 3 + 2, none⟩ = some (.slice s.A s.xs.length s.k) := by
  rw [h.cell, h.cell, h.cell]
  exact ⟨tcells_at (W := W) (H := H) (rest := rest) hj 0 (by omega), tcells_at hj 1 (by omega), tcells_at hj 2 (by omega)⟩
theorem tcells_len (l : List Sl) : (l.flatMap (encT W H)).length = l.length * 3 := flat_len (enc := encT W H) (k := 3) (fun _ => rfl) l
theorem blk_setCells : ∀ (vs : List Value) (w : World) (ps us rs : List Value), us.length = vs.length → Blk w g t (ps ++ us ++ rs) → Blk (w.setCells g ps.length vs) g t (ps ++ vs ++ rs)
  | [], w, ps, us, rs, hl, k => by
    obtain rfl : us = [] := List.eq_nil_of_length_eq_zero (by simpa using hl)
    exact k
  | v :: vs, w, ps, us, rs, hl, k => by
    obtain ⟨u, us, rfl⟩ : ∃ u l, us = u :: l := by
      cases us with
      | nil => simp at hl
      | cons u l => exact ⟨u, l, rfl⟩
    have k1 := k.set_ ps.length v
    have e1 : (ps ++ u :: us ++ rs).set ps.length v = (ps ++ [v]) ++ us ++ rs := by simp
    rw [e1] at k1
    have k2 := blk_setCells vs _ (ps ++ [v]) us rs (by simpa using hl) k1
    rw [List.length_append, List.length_singleton] at k2
    show Blk (World.setCells _ g (ps.length + 1) vs) g t _
    rw [show ps ++ v :: vs ++ rs = (ps ++ [v]) ++ vs ++ rs by simp]
    exact k2
theorem setCells_by : ∀ (vs : List Value) (w : World) (o : Nat), w.grownBy (w.setCells g o vs) (some g)
  | [], w, o => World.grownBy.refl w _
  | v :: vs, w, o => by
    have h := setCells_by vs (w.setCell ⟨g, o, none⟩ v) (o + 1)
    refine ⟨h.os, h.tape, h.output, by have := h.size; simpa [World.setCell] using this, fun q hq hne => ?_⟩
    have h2 := h.block q (by simpa [World.setCell] using hq) hne
    exact h2.trans (Below.heap_setCell w ⟨g, o, none⟩ v q (fun e => hne (by rw [e])))
theorem grown_trans {w1 w2 : World} {r : Option Nat} (h : w.grownBy w1 r) (k : w1.grownBy w2 r) : w.grownBy w2 r :=
  ⟨k.os.trans h.os, k.tape.trans h.tape, k.output.trans h.output, Nat.le_trans h.size k.size, fun q hq hne => (k.block q (Nat.lt_of_lt_of_le hq h.size) hne).trans (h.block q hq hne)⟩
theorem grown_bel {w1 w2 : World} {r : Option Nat} (h : w.grownBy w1 r) (k : Below w1.heap.size w1 w2) : w.grownBy w2 r :=
  ⟨k.os.trans h.os, k.tape.trans h.tape, k.output.trans h.output, Nat.le_trans h.size k.size, fun q hq hne => (k.block q (Nat.lt_of_lt_of_le hq h.size)).trans (h.block q hq hne)⟩
theorem bel_grown {r : Option Nat} (k : Below w.heap.size w w') : w.grownBy w' r := ⟨k.os, k.tape, k.output, k.size, fun q hq _ => k.block q hq⟩
theorem run_cells {P : Program} {vs : List Value} (h : Blk w g t cs) (hq : o + vs.length ≤ cs.length) (h1 : ∀ v ∈ vs, v.oneCell' = true) : (storeCells ⟨g, o, none⟩ vs 0).run P w = .ok () (w.setCells g o vs) := by
  have := run_storeCells_cells (P := P) g o vs 0 w (fun j hj => by rw [Nat.add_zero, h.cell, List.getElem?_eq_getElem (by omega)]; rfl) (fun j hj => h.frozen _) h1
  rwa [Nat.add_zero] at this
theorem sto_vT {A : Option Addr} {n k : Nat} (h : Blk w g t cs) (hq : o + 3 ≤ cs.length) : (Instr.storeAt 27 (.pointer (some ⟨g, o, none⟩)) (.agg #[.int .i64 W, .int .i64 H, .slice A n k])).run Try.prog w = .ok () (w.setCells g o [.int .i64 W, .int .i64 H, .slice A n k]) := by
  have h0 : w.cell? ⟨g, o, none⟩ = some cs[o] := (h.cell o).trans (List.getElem?_eq_getElem (by omega))
  have h1 : w.cell? ⟨g, o + 1, none⟩ = some cs[o + 1] := (h.cell (o + 1)).trans (List.getElem?_eq_getElem (by omega))
  have h2 : w.cell? ⟨g, o + 2, none⟩ = some cs[o + 2] := (h.cell (o + 2)).trans (List.getElem?_eq_getElem (by omega))
  have f0 := h.frozen o
  have f1 := h.frozen (o + 1)
  have f2 := h.frozen (o + 2)
  simp only [World.setCells]
  simp [go_sem, h0, h1, h2, f0, f1, f2]
theorem put_list (h : Blk w g t (ts.flatMap (encT W H) ++ rest)) (hj : j < ts.length) : Blk (w.setCells g (j * 3) (encT W H s)) g t ((ts.set j s).flatMap (encT W H) ++ rest) := by
  have e1 : ts.flatMap (encT W H) ++ rest = (ts.take j).flatMap (encT W H) ++ encT W H ts[j] ++ ((ts.drop (j + 1)).flatMap (encT W H) ++ rest) := by
    have e0 : ts = ts.take j ++ ts[j] :: ts.drop (j + 1) := by rw [← List.drop_eq_getElem_cons hj, List.take_append_drop]
    rw [congrArg (List.flatMap (encT W H)) e0, List.flatMap_append, List.flatMap_cons]
    simp only [List.append_assoc]
  have e2 : (ts.set j s).flatMap (encT W H) ++ rest = (ts.take j).flatMap (encT W H) ++ encT W H s ++ ((ts.drop (j + 1)).flatMap (encT W H) ++ rest) := by
    rw [List.set_eq_take_append_cons_drop, if_pos hj]
    simp [List.flatMap_append]
  rw [e1] at h
  rw [e2]
  have hl : ((ts.take j).flatMap (encT W H)).length = j * 3 := by rw [tcells_len, List.length_take, Nat.min_eq_left (by omega)]
  have := blk_setCells (encT W H s) w _ (encT W H ts[j]) _ rfl h
  rwa [hl] at this
end
section
variable {Q : Exit → Act → World → Prop} {o : Oper} {a : Act} {w : World} {d g j n k i : Nat} {x y : Operand} {t : TypeId} {W H : Int} {ts : List Sl} {rest : List Value} {s : Sl}
theorem op_idxT {b : Nat} (h1 : j < n) (ho : o.op = .indexAddr 72 x y) (hx : a.eval x = .slice (some ⟨g, b, none⟩) n k) (hy : a.eval y = .int .i64 (j : Int)) (w : World) : (execOp a.eval o).run Try.prog w = .ok (.value (.pointer (some ⟨g, b + j * 3, none⟩))) w := by
  have e : (⟨g, b, none⟩ : Addr).add (j * 3) = ⟨g, b + j * 3, none⟩ := by unfold Addr.add; split <;> simp_all
  generalize a.eval = ev at hx hy ⊢
  unfold execOp
  simp only [ho, hx, hy]
  simp [go_sem, h1, e]
theorem op_ldvT {A : Option Addr} {m c q : Nat} (ho : o.op = .load 27 x) (hd : o.dst = some d) (hx : a.eval x = .pointer (some ⟨g, q, none⟩))
    (h : w.cell? ⟨g, q, none⟩ = some (.int .i64 W) ∧ w.cell? ⟨g, q + 1, none⟩ = some (.int .i64 H) ∧ w.cell? ⟨g, q + 2, none⟩ = some (.slice A m c)) :
    o.wp Try.prog a w (Post a w d (isV (.agg #[.int .i64 W, .int .i64 H, .slice A m c])).p) Q := by
  obtain ⟨h0, h1, h2⟩ := h
  refine op_load (v := .agg #[.int .i64 W, .int .i64 H, .slice A m c]) ho hd hx ?_ rfl
  simp [go_sem, h0, h1, h2]
theorem op_lenT {A : Option Addr} (ho : o.op = .call { callee := .builtin .len, args := #[x], argTypes := #[72] }) (hd : o.dst = some d) (hx : a.eval x = .slice A n k) : o.wp Try.prog a w (Post a w d (isV (.int .i64 ((n : Nat) : Int))).p) Q := by
  refine op_run (v := .int .i64 (n : Int)) hd ?_ rfl
  generalize a.eval = ev at hx ⊢
  unfold execOp
  simp only [ho]
  simp [go_sem, hx]
theorem op_fromT (hi : i < n) (hk : n ≤ k) (ho : o.op = .slice 72 x (some y) none none) (hx : a.eval x = .slice (some ⟨g, 0, none⟩) n k) (hy : a.eval y = .int .i64 (i : Int)) (w : World) : (execOp a.eval o).run Try.prog w = .ok (.value (.slice (some ⟨g, i * 3, none⟩) (n - i) (k - i))) w := by
  have e : (⟨g, 0, none⟩ : Addr).add (i * 3) = ⟨g, i * 3, none⟩ := by unfold Addr.add; split <;> simp_all
  generalize a.eval = ev at hx hy ⊢
  unfold execOp
  simp only [ho, Option.map_some, Option.map_none, hx, hy]
  have h1 : (i : Int) ≤ (n : Int) := by omega
  have h2 : (n : Int) ≤ (k : Int) := by omega
  have h3 : ¬ k = i := by omega
  simp [go_sem, h1, h2, h3, e]
theorem run_clearT {ty : TypeId} {cs : List Value} {q m c : Nat} (hm : 0 < m) (h : Blk w g t cs) (hq : q + m * 3 ≤ cs.length) : ∃ vs : List Value, vs.length = m * 3 ∧ (Builtin.clear_ #[72] ty #[.slice (some ⟨g, q, none⟩) m c]).run Try.prog w = .ok (.tuple #[]) (w.setCells g q vs) := by
  have hz := Try.zeroValue27 w
  let z : Value := .agg #[.int .i64 0, .int .i64 0, .slice none 0 0]
  have hzs : z.cells = #[.int .i64 0, .int .i64 0, .slice none 0 0] := rfl
  have hl : (Builtin.zeroCells z.cells m).toList.length = m * 3 := by rw [hzs]; simp [Builtin.zeroCells]
  refine ⟨(Builtin.zeroCells z.cells m).toList, hl, ?_⟩
  have h2 := run_cells (P := Try.prog) (o := q) (vs := (Builtin.zeroCells z.cells m).toList) h (by rw [hl]; exact hq) (by
    intro v hv
    rw [hzs] at hv
    simp only [Builtin.zeroCells, Array.toList_map, List.mem_map, Array.toList_range, List.mem_range] at hv
    obtain ⟨i, hi, rfl⟩ := hv
    have h3 : i % (#[Value.int .i64 0, Value.int .i64 0, Value.slice none 0 0] : Array Value).size < 3 := Nat.mod_lt _ (by decide)
    generalize i % (#[Value.int .i64 0, Value.int .i64 0, Value.slice none 0 0] : Array Value).size = r at h3 ⊢
    rcases r with _ | _ | _ | r
    · rfl
    · rfl
    · rfl
    omega)
  cases m with
  | zero => omega
  | succ m =>
    unfold Builtin.clear_
    simp [run_underlying Try.underlying72, hz, h2, z] at *
end
end Go.Proofs.Ytddbmckbankmeaa
set_option linter.unusedVariables false
set_option linter.unusedSimpArgs false
set_option linter.unusedSectionVars false
set_option linter.unnecessarySimpa false
namespace Go.Proofs.Ytddbmckbankmeaa
open Go.RowKit
def xsn (ts : List Sl) (i : Nat) : List Int := (ts.getD i default).xs
def ddN (ts : List Sl) : Nat → List Sl
  | 0 => []
  | 1 => [ts.getD 0 default]
  | j + 2 => if xsn ts (j + 1) = xsn ts j then ddN ts (j + 1) else ddN ts (j + 1) ++ [ts.getD (j + 1) default]
theorem xsn_of {ts : List Sl} {i : Nat} {s : Sl} (h : ts[i]? = some s) : xsn ts i = s.xs := by simp [xsn, List.getD_eq_getElem?_getD, h]
theorem ddN_dup {ts : List Sl} {j : Nat} (hj : 1 ≤ j) (h : xsn ts j = xsn ts (j - 1)) : ddN ts (j + 1) = ddN ts j := by
  obtain ⟨j, rfl⟩ : ∃ q, j = q + 1 := ⟨j - 1, by omega⟩
  rw [ddN]
  exact if_pos h
theorem ddN_new {ts : List Sl} {j : Nat} (hj : 1 ≤ j) (h : xsn ts j ≠ xsn ts (j - 1)) : ddN ts (j + 1) = ddN ts j ++ [ts.getD j default] := by
  obtain ⟨j, rfl⟩ : ∃ q, j = q + 1 := ⟨j - 1, by omega⟩
  rw [ddN]
  exact if_neg h
theorem ddN_all {ts : List Sl} : ∀ {j : Nat}, j ≤ ts.length → (∀ i, 1 ≤ i → i < j → xsn ts i ≠ xsn ts (i - 1)) → ddN ts j = ts.take j
  | 0, _, _ => by simp [ddN]
  | 1, hl, _ => by
    cases ts with
    | nil => simp at hl
    | cons a l => simp [ddN]
  | j + 2, hl, h => by
    rw [ddN_new (j := j + 1) (by omega) (h (j + 1) (by omega) (by omega)), ddN_all (by omega) (fun i h1 h2 => h i h1 (by omega)), List.take_add_one (i := j + 1), List.getD_eq_getElem?_getD, List.getElem?_eq_getElem (by omega)]
    rfl
theorem ddN_short {ts : List Sl} (h : ts.length < 2) : ddN ts ts.length = ts := by
  rw [ddN_all (Nat.le_refl _) (fun i h1 h2 => by omega), List.take_length]
structure Ci (ts : List Sl) (j k : Nat) (cur : List Sl) : Prop where
  len : cur.length = ts.length
  low : cur.take k = ddN ts j
  num : k = (ddN ts j).length
  lt : k < j
  high : ∀ i, j ≤ i + 1 → cur[i]? = ts[i]?
theorem Ci.start {ts : List Sl} {k : Nat} (hk : k < ts.length) (hk1 : 1 ≤ k) (h : ∀ i, 1 ≤ i → i < k → xsn ts i ≠ xsn ts (i - 1)) (hd : xsn ts k = xsn ts (k - 1)) : Ci ts (k + 1) k ts := by
  have e := ddN_all (by omega) h
  refine ⟨rfl, by rw [ddN_dup hk1 hd, e], by rw [ddN_dup hk1 hd, e, List.length_take]; omega, by omega, fun _ _ => rfl⟩
theorem Ci.skip {ts cur : List Sl} {j k : Nat} (h : Ci ts j k cur) (hj : 1 ≤ j) (hd : xsn ts j = xsn ts (j - 1)) : Ci ts (j + 1) k cur :=
  ⟨h.len, by rw [ddN_dup hj hd]; exact h.low, by rw [ddN_dup hj hd]; exact h.num, by have := h.lt; omega, fun i hi => h.high i (by omega)⟩
theorem Ci.keep {ts cur : List Sl} {j k : Nat} {s : Sl} (h : Ci ts j k cur) (hj : 1 ≤ j) (hs : ts[j]? = some s) (hd : xsn ts j ≠ xsn ts (j - 1)) : Ci ts (j + 1) (k + 1) (cur.set k s) := by
  have hlt := h.lt
  have hjl : j < ts.length := (List.getElem?_eq_some_iff.1 hs).1
  have e : ts.getD j default = s := by rw [List.getD_eq_getElem?_getD, hs]; rfl
  refine ⟨by rw [List.length_set]; exact h.len, ?_, by rw [ddN_new hj hd, List.length_append, ← h.num]; rfl, by omega, fun i hi => by rw [List.getElem?_set_ne (by omega)]; exact h.high i (by omega)⟩
  rw [ddN_new hj hd, e, ← h.low, List.take_add_one, List.getElem?_set_self (by rw [h.len]; omega), List.take_set_of_le (Nat.le_refl _)]
  rfl
theorem Ci.done {ts cur : List Sl} {k : Nat} (h : Ci ts ts.length k cur) : cur = ddN ts ts.length ++ cur.drop k := by
  rw [← h.low, List.take_append_drop]
theorem ddN_mem {ts : List Sl} : ∀ {j : Nat}, j ≤ ts.length → ∀ s ∈ ddN ts j, s ∈ ts
  | 0, _, s, h => by cases h
  | 1, hl, s, h => by
    cases ts with
    | nil => simp at hl
    | cons a l => simp [ddN] at h; simp [h]
  | j + 2, hl, s, h => by
    rw [ddN] at h
    split at h
    · exact ddN_mem (by omega) s h
    rcases List.mem_append.1 h with h | h
    · exact ddN_mem (by omega) s h
    rw [List.mem_singleton.1 h, List.getD_eq_getElem?_getD, List.getElem?_eq_getElem (by omega)]
    exact List.getElem_mem _
theorem Sl.ok.to {w w' : World} {s : Sl} (h : s.ok w) (hb : Below w.heap.size w w') : s.ok w' := ⟨h.1.to hb, h.2⟩
theorem clear_row {w : World} {g k c : Nat} {ty : TypeId} {W H : Int} {ts cur : List Sl} {rest : List Value} (h : Ci ts ts.length k cur) (hb : Blk w g 27 (cur.flatMap (encT W H) ++ rest)) :
    ∃ vs rest', (∀ ty, (Builtin.clear_ #[72] ty #[.slice (some ⟨g, k * 3, none⟩) (ts.length - k) c]).run Try.prog w = .ok (.tuple #[]) (w.setCells g (k * 3) vs)) ∧ Blk (w.setCells g (k * 3) vs) g 27 ((ddN ts ts.length).flatMap (encT W H) ++ rest') := by
  have hl : (cur.flatMap (encT W H)).length = ts.length * 3 := by rw [tcells_len, h.len]
  have hlt := h.lt
  have hn := h.num
  have key : ∀ ty, ∃ vs : List Value, vs.length = (ts.length - k) * 3 ∧ (Builtin.clear_ #[72] ty #[.slice (some ⟨g, k * 3, none⟩) (ts.length - k) c]).run Try.prog w = .ok (.tuple #[]) (w.setCells g (k * 3) vs) := fun ty => run_clearT (by omega) hb (by rw [List.length_append, hl]; omega)
  obtain ⟨vs, hvl, hrun⟩ := key 0
  refine ⟨vs, vs ++ rest, fun ty => hrun, ?_⟩
  have e := h.done
  have e1 : cur.flatMap (encT W H) ++ rest = (ddN ts ts.length).flatMap (encT W H) ++ (cur.drop k).flatMap (encT W H) ++ rest := by
    conv => lhs; rw [e]
    rw [List.flatMap_append]
  rw [e1] at hb
  have := blk_setCells vs w _ _ _ (by rw [tcells_len, List.length_drop, h.len, hvl]) hb
  rw [tcells_len, ← hn] at this
  rw [List.append_assoc] at this
  exact this
section
variable {P : Program} {Q : Exit → Act → World → Prop} {o : Oper} {a : Act} {w : World} {d : Nat} {R : Value → World → Prop} {f : Nat} {x1 x2 y : Operand} {ts : Array TypeId}
theorem op_callv2 (hy : a.eval y = .func (.func f) #[] #[]) (ho : o.op = .call { callee := .value y, args := #[x1, x2], argTypes := ts }) (hd : o.dst = some d)
    (hcf : ∀ args w, (callFunc f args).run P w = .ok (.enter f args) w) (hc : Calls P f #[a.eval x1, a.eval x2] w (Got w R)) : o.wp P a w (Post a w d R) Q := by
  have key : execOp a.eval o = callFunc f (#[] ++ #[x1, x2].map a.eval ++ #[]) := by
    obtain ⟨dst, op, type, pos, after, guard⟩ := o
    simp only at ho
    subst ho
    unfold execOp
    simp only [resolve, hy]
    rfl
  unfold Oper.wp
  rw [key, hcf]
  simp only [Oper.upon, Array.empty_append, Array.append_empty, hd, List.map_toArray, List.map_cons, List.map_nil]
  refine hc.mono ?_
  rintro e w' ⟨v, rfl, hb, hr⟩
  exact ⟨v, rfl, hb, hr⟩
end
theorem cmpT_got (Wd Ht : Int) (s1 s0 : Sl) (w : World) (h1 : RI w s1.A s1.xs) (h0 : RI w s0.A s0.xs) (hl1 : s1.xs.length ≤ 140737488351232) (hl0 : s0.xs.length ≤ 140737488351232) :
    Calls Try.prog 76 #[.agg #[.int .i64 Wd, .int .i64 Ht, .slice s1.A s1.xs.length s1.k], .agg #[.int .i64 Wd, .int .i64 Ht, .slice s0.A s0.xs.length s0.k]] w (Got w (isV (.int .i64 (cmpL s1.xs s0.xs))).p) := by
  have h := compare_x Wd Ht Wd Ht s1.A s0.A s1.k s0.k s1.xs s0.xs w h1 h0 hl1 hl0
  rw [ordT_same] at h
  exact h.mono fun e w' ⟨v, he, hb, hv⟩ => ⟨v, he, hb.b, hv⟩
theorem cmpL_dec (xs ys : List Int) : decide (cmpL xs ys = 0) = decide (xs = ys) := by
  by_cases h : xs = ys
  · rw [h, cmpL_refl]; simp
  rw [decide_eq_false h, decide_eq_false (fun e => h (cmpL_zero e))]
set_option maxRecDepth 100000 in
set_option maxHeartbeats 1000000 in
theorem Orbit1_got (Wd Ht : Int) (s1 s0 : Sl) (w : World) (hr1 : RI w s1.A s1.xs) (hr0 : RI w s0.A s0.xs) (hl1 : s1.xs.length ≤ 140737488351232) (hl0 : s0.xs.length ≤ 140737488351232) :
    Calls Try.prog 79 #[.agg #[.int .i64 Wd, .int .i64 Ht, .slice s1.A s1.xs.length s1.k], .agg #[.int .i64 Wd, .int .i64 Ht, .slice s0.A s0.xs.length s0.k]] w (Got w (isV (.bool (decide (s1.xs = s0.xs)))).p) := by
  have HR1 := Hd.mk hr1
  have HR0 := Hd.mk hr0
  clear hr1 hr0
  go_enter Try.func79, Try.ntmps79
  go_upto_region 1 with fail
  obtain ⟨W0, hW0⟩ : ∃ W : World, W = (w.alloc (.cells #[.int .i64 Wd, .int .i64 Ht, .slice s1.A s1.xs.length s1.k] 27)).alloc (.cells #[.int .i64 Wd, .int .i64 Ht, .slice s0.A s0.xs.length s0.k] 27) := ⟨_, rfl⟩
  rw [← hW0]
  obtain ⟨he, hb⟩ := env_two hW0
  have HE := Hd.mk he
  have HB := Hd.mk hb
  clear he hb hW0
  refine wp_region_vd 4 [5, 6, 7, 8] [3] [] 84 [.int .i64 0, .int .i64 0] [isV (.agg #[.int .i64 Wd, .int .i64 Ht, .slice s1.A s1.xs.length s1.k]), isV (.agg #[.int .i64 Wd, .int .i64 Ht, .slice s0.A s0.xs.length s0.k]), isV (.int .i64 (cmpL s1.xs s0.xs)), isV (.bool (decide (s1.xs = s0.xs)))] (by rfl) alloc_Z ?_ ?_
  · intro qi qh qA aa wx hb hs hd
    match qi, qh, qA with
    | 0, _, _ => exact .inl ⟨rfl, op_ldT rfl rfl (hs 2 rfl) ((HE.out.to hb).get 0 rfl)⟩
    | 1, _, _ => exact .inl ⟨rfl, op_ldT rfl rfl (hs 3 rfl) ((HE.out.to hb).get 1 rfl)⟩
    | 2, _, _ => exact .inl ⟨rfl, op_call2 rfl rfl Try.call76 (by rw [(show aa.eval (.tmp 5) = .agg #[.int .i64 Wd, .int .i64 Ht, .slice s1.A s1.xs.length s1.k] from (hd 0 rfl)), (show aa.eval (.tmp 6) = .agg #[.int .i64 Wd, .int .i64 Ht, .slice s0.A s0.xs.length s0.k] from (hd 1 rfl))]; exact cmpT_got Wd Ht s1 s0 _ (HR1.out.to (bel_then HB.out hb)) (HR0.out.to (bel_then HB.out hb)) hl1 hl0)⟩
    | 3, _, _ => exact .inl ⟨rfl, pure_b (bool_eq (cmpL_dec _ _)) (⟨_, op_eqlI rfl (hd 2 rfl) rfl, rfl⟩)⟩
    | qi + 4, h, _ => omega
  intro vs X1 hb hv hal hne
  replace HB := Hd.mk (bel_then HB.out hb)
  replace HE := Hd.mk (HE.out.to hb)
  have e8 : vs 8 = .bool (decide (s1.xs = s0.xs)) := hv 3 (by decide) rfl
  simp only [PA, e8]
  clear hv hal hne hb e8
  go_wp2_with fail
  go_ret
  exact ⟨_, rfl, HB.out, rfl⟩
set_option maxRecDepth 100000 in
set_option maxHeartbeats 1000000 in
theorem Compact_calls (Wd Ht : Int) (g cap : Nat) (ts : List Sl) (rest : List Value) (w : World) (hb : Blk w g 27 (ts.flatMap (encT Wd Ht) ++ rest)) (hok : ∀ s ∈ ts, s.ok w) (hl : ts.length ≤ 1000000) (hcap : ts.length ≤ cap) (hc2 : cap ≤ 9223372036854775807) :
    Calls Try.prog 78 #[.slice (some ⟨g, 0, none⟩) ts.length cap, .func (.func 79) #[] #[]] w fun e w' => ∃ rest', e = .returned (.slice (some ⟨g, 0, none⟩) (ddN ts ts.length).length cap) ∧
      Blk w' g 27 ((ddN ts ts.length).flatMap (encT Wd Ht) ++ rest') ∧ w.grownBy w' (some g) := by
  have HNE : Hd (∀ s ∈ ts, ∀ ad, s.A = some ad → ad.block ≠ g) := ⟨fun s hs ad e => ((hok s hs).1.ne hb (by decide) ad e).1⟩
  have HOK0 := Hd.mk hok
  have HLT := Hd.mk hb.lt
  clear hok
  go_enter Try.func78, Try.ntmps78
  go_upto_region 1 with fail
  have HB : Hd (Below w.heap.size w w) := ⟨Below.refl _ _⟩
  have HE : Hd (Env w [⟨g, 27, ts.flatMap (encT Wd Ht) ++ rest⟩]) := ⟨⟨hb, (fun e h => by cases h), trivial⟩⟩
  clear hb
  by_cases h2 : ts.length < 2
  · have HD := Hd.mk (ddN_short h2)
    refine wp_region_vd 3 [8, 9, 10] [0, 2] [] 84 [.int .i64 0, .int .i64 0] [isV (.slice (some ⟨g, 0, none⟩) ts.length cap), isV (.int .i64 (((ts.length : Nat) : Int))), isV (.bool true)] (by rfl) alloc_Z ?_ ?_
    · intro qi qh qA aa wx hb hs hd
      match qi, qh, qA with
      | 0, _, _ => exact .inl ⟨rfl, op_mv rfl (hs 0 rfl)⟩
      | 1, _, _ => exact .inl ⟨rfl, op_lenT rfl rfl (hd 0 rfl)⟩
      | 2, _, _ => exact .inl ⟨rfl, pure_b (bool_eq (decide_eq_true (by omega))) (⟨_, op_lssI rfl (hd 1 rfl) rfl, rfl⟩)⟩
      | qi + 3, h, _ => omega
    intro vs X1 hb hv hal hne
    replace HB := Hd.mk (bel_then HB.out hb)
    replace HE := Hd.mk (HE.out.to hb)
    have e10 : vs 10 = .bool true := hv 2 (by decide) rfl
    simp only [PA, e10]
    clear hv hal hne hb e10
    go_wp2_with fail
    go_ret
    exact ⟨rest, by rw [HD.out]; rfl, by rw [HD.out]; exact HE.out.get 0 rfl, bel_grown HB.out⟩
  refine wp_region_vd 3 [8, 9, 10] [0, 2] [] 84 [.int .i64 0, .int .i64 0] [isV (.slice (some ⟨g, 0, none⟩) ts.length cap), isV (.int .i64 (((ts.length : Nat) : Int))), isV (.bool false)] (by rfl) alloc_Z ?_ ?_
  · intro qi qh qA aa wx hb hs hd
    match qi, qh, qA with
    | 0, _, _ => exact .inl ⟨rfl, op_mv rfl (hs 0 rfl)⟩
    | 1, _, _ => exact .inl ⟨rfl, op_lenT rfl rfl (hd 0 rfl)⟩
    | 2, _, _ => exact .inl ⟨rfl, pure_b (bool_eq (decide_eq_false (by omega))) (⟨_, op_lssI rfl (hd 1 rfl) rfl, rfl⟩)⟩
    | qi + 3, h, _ => omega
  intro vs X1 hb hv hal hne
  replace HB := Hd.mk (bel_then HB.out hb)
  replace HE := Hd.mk (HE.out.to hb)
  have e10 : vs 10 = .bool false := hv 2 (by decide) rfl
  simp only [PA, e10]
  clear hv hal hne hb e10
  go_wp2_with fail
  go_loopw [5] (fun s5 wr => ∃ k : Nat, 1 ≤ k ∧ k ≤ ts.length ∧ s5 = .int .i64 k ∧ (∀ i, 1 ≤ i → i < k → xsn ts i ≠ xsn ts (i - 1)) ∧ Blk wr g 27 (ts.flatMap (encT Wd Ht) ++ rest) ∧ Below w.heap.size w wr) (fun s5 _ => ts.length - (intOf s5).toNat)
  case atStart => exact ⟨1, Nat.le_refl _, by omega, rfl, fun i h1 h2 => by omega, HE.out.get 0 rfl, HB.out⟩
  case round =>
    obtain ⟨k, hk1, hkn, rfl, hall, hbl, hbw⟩ := hrel
    clear HB HE
    have HALL := Hd.mk hall
    have HW := Hd.mk hbw
    have HOK : Hd (∀ s ∈ ts, s.ok wr) := ⟨fun s hs => (HOK0.out s hs).to hbw⟩
    have HB : Hd (Below wr.heap.size wr wr) := ⟨Below.refl _ _⟩
    have HE : Hd (Env wr [⟨g, 27, ts.flatMap (encT Wd Ht) ++ rest⟩]) := ⟨⟨hbl, (fun e h => by cases h), trivial⟩⟩
    clear hbl hall hbw
    by_cases hk : k < ts.length
    · skip
      go_upto_region 4 with fail
      refine wp_region_vd 4 [12, 13, 14, 15] [0, 1, 3] [] 84 [.int .i64 0, .int .i64 0] [isV (.int .i64 (((k : Nat) : Int))), isV (.slice (some ⟨g, 0, none⟩) ts.length cap), isV (.int .i64 (((ts.length : Nat) : Int))), isV (.bool true)] (by rfl) alloc_Z ?_ ?_
      · intro qi qh qA aa wx hb hs hd
        match qi, qh, qA with
        | 0, _, _ => exact .inl ⟨rfl, op_mv rfl (hs 5 rfl)⟩
        | 1, _, _ => exact .inl ⟨rfl, op_mv rfl (hs 0 rfl)⟩
        | 2, _, _ => exact .inl ⟨rfl, op_lenT rfl rfl (hd 1 rfl)⟩
        | 3, _, _ => exact .inl ⟨rfl, pure_b (bool_eq (decide_eq_true (by omega))) (⟨_, op_lssI rfl (hd 0 rfl) (hd 2 rfl), rfl⟩)⟩
        | qi + 4, h, _ => omega
      intro vs X1 hb hv hal hne
      replace HB := Hd.mk (bel_then HB.out hb)
      replace HE := Hd.mk (HE.out.to hb)
      have e15 : vs 15 = .bool true := hv 3 (by decide) rfl
      simp only [PA, e15]
      clear hv hal hne hb e15
      obtain ⟨s1, hs1⟩ : ∃ s, ts[k]? = some s := ⟨_, List.getElem?_eq_getElem hk⟩
      obtain ⟨s0, hs0⟩ : ∃ s, ts[k - 1]? = some s := ⟨_, List.getElem?_eq_getElem (by omega)⟩
      have M1 := Hd.mk (List.mem_of_getElem? hs1)
      have M0 := Hd.mk (List.mem_of_getElem? hs0)
      have HS1 := Hd.mk hs1
      have HS0 := Hd.mk hs0
      clear hs1 hs0
      by_cases hd : s1.xs = s0.xs
      · have HDX := Hd.mk (show xsn ts k = xsn ts (k - 1) by rw [xsn_of HS1.out, xsn_of HS0.out]; exact hd)
        have HDD := Hd.mk hd
        clear hd
        go_upto_region 6 with fail
        refine wp_region_vs 11 [18, 19, 20, 21, 22, 23, 24, 25, 26, 27, 28] [0, 1, 2, 5, 6, 7] [] 84 [.int .i64 0, .int .i64 0] [isV (.func (.func 79) #[] #[]), isV (.slice (some ⟨g, 0, none⟩) ts.length cap), isV (.int .i64 (((k : Nat) : Int))), isV (.pointer (some ⟨g, 0 + k * 3, none⟩)), isV (.agg #[.int .i64 Wd, .int .i64 Ht, .slice s1.A s1.xs.length s1.k]), isV (.slice (some ⟨g, 0, none⟩) ts.length cap), isV (.int .i64 (((k : Nat) : Int))), isV (.int .i64 (((k - 1 : Nat) : Int))), isV (.pointer (some ⟨g, 0 + (k - 1) * 3, none⟩)), isV (.agg #[.int .i64 Wd, .int .i64 Ht, .slice s0.A s0.xs.length s0.k]), isV (.bool true)] (by kernel_rfl) (by kernel_rfl) (by kernel_rfl) (by rfl) alloc_Z (fun d v c a w h => by cases d <;> exact h) ?_ ?_
        · intro qi qh qA aa wx hb hs hd
          match qi, qh, qA with
          | 0, _, _ => exact op_mv rfl (hs 1 rfl)
          | 1, _, _ => exact op_mv rfl (hs 0 rfl)
          | 2, _, _ => exact op_mv rfl (hs 5 rfl)
          | 3, _, _ => exact op_run rfl (op_idxT hk rfl (hd 1 rfl) (hd 2 rfl) _) rfl
          | 4, _, _ => exact op_ldvT rfl rfl (hd 3 rfl) (by rw [Nat.zero_add]; exact tcell_ld ((HE.out.to hb).get 0 rfl) HS1.out)
          | 5, _, _ => exact op_mv rfl (hs 0 rfl)
          | 6, _, _ => exact op_mv rfl (hs 5 rfl)
          | 7, _, _ => exact pure_b (int_eq (by omega)) (⟨_, op_sub (by unfold Fit; omega) rfl (hd 6 rfl) rfl, rfl⟩)
          | 8, _, _ => exact op_run rfl (op_idxT (by omega) rfl (hd 5 rfl) (hd 7 rfl) _) rfl
          | 9, _, _ => exact op_ldvT rfl rfl (hd 8 rfl) (by rw [Nat.zero_add]; exact tcell_ld ((HE.out.to hb).get 0 rfl) HS0.out)
          | 10, _, _ => exact wp_b (bool_eq (decide_eq_true HDD.out)) (op_callv2 (hd 0 rfl) rfl rfl Try.call79 (by rw [(show aa.eval (.tmp 22) = .agg #[.int .i64 Wd, .int .i64 Ht, .slice s1.A s1.xs.length s1.k] from (hd 4 rfl)), (show aa.eval (.tmp 27) = .agg #[.int .i64 Wd, .int .i64 Ht, .slice s0.A s0.xs.length s0.k] from (hd 9 rfl))]; exact Orbit1_got Wd Ht s1 s0 _ ((HOK.out s1 M1.out).1.1.to (bel_then HB.out hb)) ((HOK.out s0 M0.out).1.1.to (bel_then HB.out hb)) (by have := (HOK.out s1 M1.out).2; omega) (by have := (HOK.out s0 M0.out).2; omega)))
          | qi + 11, h, _ => omega
        intro vs X2 hb hv hal hne
        replace HB := Hd.mk (bel_then HB.out hb)
        replace HE := Hd.mk (HE.out.to hb)
        have e28 : vs 28 = .bool true := hv 10 (by decide) rfl
        simp only [PA, e28]
        clear hv hal hne hb e28
        go_upto_region 7 with fail
        refine wp_region_vd 3 [29, 30, 31] [0, 1] [] 84 [.int .i64 0, .int .i64 0] [isV (.slice (some ⟨g, 0, none⟩) ts.length cap), isV (.int .i64 (((k : Nat) : Int))), isV (.slice (some ⟨g, k * 3, none⟩) (ts.length - k) (cap - k))] (by rfl) alloc_Z ?_ ?_
        · intro qi qh qA aa wx hb hs hd
          match qi, qh, qA with
          | 0, _, _ => exact .inl ⟨rfl, op_mv rfl (hs 0 rfl)⟩
          | 1, _, _ => exact .inl ⟨rfl, op_mv rfl (hs 5 rfl)⟩
          | 2, _, _ => exact .inl ⟨rfl, op_run rfl (op_fromT hk hcap rfl (hd 0 rfl) (hd 1 rfl) _) rfl⟩
          | qi + 3, h, _ => omega
        intro vs X3 hb hv hal hne
        replace HB := Hd.mk (bel_then HB.out hb)
        replace HE := Hd.mk (HE.out.to hb)
        have e31 : vs 31 = .slice (some ⟨g, k * 3, none⟩) (ts.length - k) (cap - k) := hv 2 (by decide) rfl
        simp only [PA, e31]
        clear hv hal hne hb e31
        go_wp2_with fail
        clear HOK HDD M1 M0 HS1 HS0
        go_loopw [5, 7] (fun s5 s7 wr => ∃ (kk k2 : Nat) (cur : List Sl), s5 = .int .i64 kk ∧ s7 = .int .i64 k2 ∧ 1 ≤ k2 ∧ k + k2 ≤ ts.length ∧ Ci ts (k + k2) kk cur ∧ Blk wr g 27 (cur.flatMap (encT Wd Ht) ++ rest) ∧ w.grownBy wr (some g)) (fun _ s7 _ => ts.length - (intOf s7).toNat)
        case atStart => exact ⟨k, 1, ts, rfl, rfl, Nat.le_refl _, by omega, Ci.start hk hk1 HALL.out HDX.out, HE.out.get 0 rfl, grown_bel (bel_grown HW.out) HB.out⟩
        case round =>
          obtain ⟨kk, k2, cur, rfl, rfl, hk2, hkn2, hci, hbl, hgw⟩ := hrel
          clear HB HE HW
          have HCI := Hd.mk hci
          have hkk := hci.lt
          have HG := Hd.mk hgw
          have HOK : Hd (∀ s ∈ ts, s.ok wr) := ⟨fun s hs => ⟨(HOK0.out s hs).1.by_ hgw (fun ad e => (HNE.out s hs ad e)), (HOK0.out s hs).2⟩⟩
          have HB : Hd (Below wr.heap.size wr wr) := ⟨Below.refl _ _⟩
          have HE : Hd (Env wr [⟨g, 27, cur.flatMap (encT Wd Ht) ++ rest⟩]) := ⟨⟨hbl, (fun e h => by cases h), trivial⟩⟩
          clear hbl hci hgw
          by_cases hk3 : k + k2 < ts.length
          · skip
            go_upto_region 9 with fail
            refine wp_region_vd 4 [32, 33, 34, 35] [0, 1, 3] [] 84 [.int .i64 0, .int .i64 0] [isV (.int .i64 (((k2 : Nat) : Int))), isV (.slice (some ⟨g, k * 3, none⟩) ((ts.length - k)) ((cap - k))), isV (.int .i64 (((ts.length - k : Nat) : Int))), isV (.bool true)] (by rfl) alloc_Z ?_ ?_
            · intro qi qh qA aa wx hb hs hd
              match qi, qh, qA with
              | 0, _, _ => exact .inl ⟨rfl, op_mv rfl (hs 7 rfl)⟩
              | 1, _, _ => exact .inl ⟨rfl, op_mv rfl (hs 6 rfl)⟩
              | 2, _, _ => exact .inl ⟨rfl, op_lenT rfl rfl (hd 1 rfl)⟩
              | 3, _, _ => exact .inl ⟨rfl, pure_b (bool_eq (decide_eq_true (by omega))) (⟨_, op_lssI rfl (hd 0 rfl) (hd 2 rfl), rfl⟩)⟩
              | qi + 4, h, _ => omega
            intro vs X1 hb hv hal hne
            replace HB := Hd.mk (bel_then HB.out hb)
            replace HE := Hd.mk (HE.out.to hb)
            have e35 : vs 35 = .bool true := hv 3 (by decide) rfl
            simp only [PA, e35]
            clear hv hal hne hb e35
            obtain ⟨s1, hs1⟩ : ∃ s, ts[k + k2]? = some s := ⟨_, List.getElem?_eq_getElem hk3⟩
            obtain ⟨s0, hs0⟩ : ∃ s, ts[k + k2 - 1]? = some s := ⟨_, List.getElem?_eq_getElem (by omega)⟩
            have M1 := Hd.mk (List.mem_of_getElem? hs1)
            have M0 := Hd.mk (List.mem_of_getElem? hs0)
            have HS1 := Hd.mk hs1
            have HS0 := Hd.mk hs0
            have HC1 := Hd.mk ((HCI.out.high (k + k2) (by omega)).trans hs1)
            have HC0 := Hd.mk ((HCI.out.high (k + k2 - 1) (by omega)).trans hs0)
            clear hs1 hs0
            by_cases hd : s1.xs = s0.xs
            · have HDX := Hd.mk (show xsn ts (k + k2) = xsn ts (k + k2 - 1) by rw [xsn_of HS1.out, xsn_of HS0.out]; exact hd)
              have HDD := Hd.mk hd
              clear hd
              go_upto_region 11 with fail
              refine wp_region_vs 12 [38, 39, 40, 41, 42, 43, 44, 45, 46, 47, 48, 49] [0, 1, 2, 5, 6, 7, 11] [] 84 [.int .i64 0, .int .i64 0] [isV (.func (.func 79) #[] #[]), isV (.slice (some ⟨g, k * 3, none⟩) ((ts.length - k)) ((cap - k))), isV (.int .i64 (((k2 : Nat) : Int))), isV (.pointer (some ⟨g, k * 3 + k2 * 3, none⟩)), isV (.agg #[.int .i64 Wd, .int .i64 Ht, .slice s1.A s1.xs.length s1.k]), isV (.slice (some ⟨g, k * 3, none⟩) ((ts.length - k)) ((cap - k))), isV (.int .i64 (((k2 : Nat) : Int))), isV (.int .i64 (((k2 - 1 : Nat) : Int))), isV (.pointer (some ⟨g, k * 3 + (k2 - 1) * 3, none⟩)), isV (.agg #[.int .i64 Wd, .int .i64 Ht, .slice s0.A s0.xs.length s0.k]), isV (.bool true), isV (.bool false)] (by kernel_rfl) (by kernel_rfl) (by kernel_rfl) (by rfl) alloc_Z (fun d v c a w h => by cases d <;> exact h) ?_ ?_
              · intro qi qh qA aa wx hb hs hd
                match qi, qh, qA with
                | 0, _, _ => exact op_mv rfl (hs 1 rfl)
                | 1, _, _ => exact op_mv rfl (hs 6 rfl)
                | 2, _, _ => exact op_mv rfl (hs 7 rfl)
                | 3, _, _ => exact op_run rfl (op_idxT (by omega) rfl (hd 1 rfl) (hd 2 rfl) _) rfl
                | 4, _, _ => exact op_ldvT rfl rfl (hd 3 rfl) (by rw [← Nat.add_mul]; exact tcell_ld ((HE.out.to hb).get 0 rfl) HC1.out)
                | 5, _, _ => exact op_mv rfl (hs 6 rfl)
                | 6, _, _ => exact op_mv rfl (hs 7 rfl)
                | 7, _, _ => exact pure_b (int_eq (by omega)) (⟨_, op_sub (by unfold Fit; omega) rfl (hd 6 rfl) rfl, rfl⟩)
                | 8, _, _ => exact op_run rfl (op_idxT (by omega) rfl (hd 5 rfl) (hd 7 rfl) _) rfl
                | 9, _, _ => exact op_ldvT rfl rfl (hd 8 rfl) (by rw [← Nat.add_mul, show k + (k2 - 1) = k + k2 - 1 by omega]; exact tcell_ld ((HE.out.to hb).get 0 rfl) HC0.out)
                | 10, _, _ => exact wp_b (bool_eq (decide_eq_true HDD.out)) (op_callv2 (hd 0 rfl) rfl rfl Try.call79 (by rw [(show aa.eval (.tmp 42) = .agg #[.int .i64 Wd, .int .i64 Ht, .slice s1.A s1.xs.length s1.k] from (hd 4 rfl)), (show aa.eval (.tmp 47) = .agg #[.int .i64 Wd, .int .i64 Ht, .slice s0.A s0.xs.length s0.k] from (hd 9 rfl))]; exact Orbit1_got Wd Ht s1 s0 _ ((HOK.out s1 M1.out).1.1.to (bel_then HB.out hb)) ((HOK.out s0 M0.out).1.1.to (bel_then HB.out hb)) (by have := (HOK.out s1 M1.out).2; omega) (by have := (HOK.out s0 M0.out).2; omega)))
                | 11, _, _ => exact ⟨_, op_not rfl (hd 10 rfl), rfl⟩
                | qi + 12, h, _ => omega
              intro vs X2 hb hv hal hne
              replace HB := Hd.mk (bel_then HB.out hb)
              replace HE := Hd.mk (HE.out.to hb)
              have e49 : vs 49 = .bool false := hv 11 (by decide) rfl
              simp only [PA, e49]
              clear hv hal hne hb e49
              go_upto_region 10 with fail
              refine wp_region_vd 2 [36, 37] [0, 1] [] 84 [.int .i64 0, .int .i64 0] [isV (.int .i64 (((k2 : Nat) : Int))), isV (.int .i64 ((((k2 : Nat) : Int)) + 1))] (by rfl) alloc_Z ?_ ?_
              · intro qi qh qA aa wx hb hs hd
                match qi, qh, qA with
                | 0, _, _ => exact .inl ⟨rfl, op_mv rfl (hs 7 rfl)⟩
                | 1, _, _ => exact .inl ⟨rfl, ⟨_, op_add (by unfold Fit; omega) rfl (hd 0 rfl) rfl, rfl⟩⟩
                | qi + 2, h, _ => omega
              intro vs X3 hb hv hal hne
              replace HB := Hd.mk (bel_then HB.out hb)
              replace HE := Hd.mk (HE.out.to hb)
              have e37 : vs 37 = .int .i64 ((((k2 : Nat) : Int)) + 1) := hv 1 (by decide) rfl
              simp only [PA, e37]
              clear hv hal hne hb e37
              go_wp2_with fail
              go_roundw
              case rel => exact ⟨kk, k2 + 1, cur, rfl, by go_num, by omega, by omega, HCI.out.skip (by omega) HDX.out, HE.out.get 0 rfl, grown_bel HG.out HB.out⟩
              case measure => simp [intOf]; omega
            have HDX := Hd.mk (show xsn ts (k + k2) ≠ xsn ts (k + k2 - 1) by rw [xsn_of HS1.out, xsn_of HS0.out]; exact hd)
            have HDD := Hd.mk hd
            clear hd
            go_upto_region 11 with fail
            refine wp_region_vs 12 [38, 39, 40, 41, 42, 43, 44, 45, 46, 47, 48, 49] [0, 1, 2, 5, 6, 7, 11] [] 84 [.int .i64 0, .int .i64 0] [isV (.func (.func 79) #[] #[]), isV (.slice (some ⟨g, k * 3, none⟩) ((ts.length - k)) ((cap - k))), isV (.int .i64 (((k2 : Nat) : Int))), isV (.pointer (some ⟨g, k * 3 + k2 * 3, none⟩)), isV (.agg #[.int .i64 Wd, .int .i64 Ht, .slice s1.A s1.xs.length s1.k]), isV (.slice (some ⟨g, k * 3, none⟩) ((ts.length - k)) ((cap - k))), isV (.int .i64 (((k2 : Nat) : Int))), isV (.int .i64 (((k2 - 1 : Nat) : Int))), isV (.pointer (some ⟨g, k * 3 + (k2 - 1) * 3, none⟩)), isV (.agg #[.int .i64 Wd, .int .i64 Ht, .slice s0.A s0.xs.length s0.k]), isV (.bool false), isV (.bool true)] (by kernel_rfl) (by kernel_rfl) (by kernel_rfl) (by rfl) alloc_Z (fun d v c a w h => by cases d <;> exact h) ?_ ?_
            · intro qi qh qA aa wx hb hs hd
              match qi, qh, qA with
              | 0, _, _ => exact op_mv rfl (hs 1 rfl)
              | 1, _, _ => exact op_mv rfl (hs 6 rfl)
              | 2, _, _ => exact op_mv rfl (hs 7 rfl)
              | 3, _, _ => exact op_run rfl (op_idxT (by omega) rfl (hd 1 rfl) (hd 2 rfl) _) rfl
              | 4, _, _ => exact op_ldvT rfl rfl (hd 3 rfl) (by rw [← Nat.add_mul]; exact tcell_ld ((HE.out.to hb).get 0 rfl) HC1.out)
              | 5, _, _ => exact op_mv rfl (hs 6 rfl)
              | 6, _, _ => exact op_mv rfl (hs 7 rfl)
              | 7, _, _ => exact pure_b (int_eq (by omega)) (⟨_, op_sub (by unfold Fit; omega) rfl (hd 6 rfl) rfl, rfl⟩)
              | 8, _, _ => exact op_run rfl (op_idxT (by omega) rfl (hd 5 rfl) (hd 7 rfl) _) rfl
              | 9, _, _ => exact op_ldvT rfl rfl (hd 8 rfl) (by rw [← Nat.add_mul, show k + (k2 - 1) = k + k2 - 1 by omega]; exact tcell_ld ((HE.out.to hb).get 0 rfl) HC0.out)
              | 10, _, _ => exact wp_b (bool_eq (decide_eq_false HDD.out)) (op_callv2 (hd 0 rfl) rfl rfl Try.call79 (by rw [(show aa.eval (.tmp 42) = .agg #[.int .i64 Wd, .int .i64 Ht, .slice s1.A s1.xs.length s1.k] from (hd 4 rfl)), (show aa.eval (.tmp 47) = .agg #[.int .i64 Wd, .int .i64 Ht, .slice s0.A s0.xs.length s0.k] from (hd 9 rfl))]; exact Orbit1_got Wd Ht s1 s0 _ ((HOK.out s1 M1.out).1.1.to (bel_then HB.out hb)) ((HOK.out s0 M0.out).1.1.to (bel_then HB.out hb)) (by have := (HOK.out s1 M1.out).2; omega) (by have := (HOK.out s0 M0.out).2; omega)))
              | 11, _, _ => exact ⟨_, op_not rfl (hd 10 rfl), rfl⟩
              | qi + 12, h, _ => omega
            intro vs X2 hb hv hal hne
            replace HB := Hd.mk (bel_then HB.out hb)
            replace HE := Hd.mk (HE.out.to hb)
            have e49 : vs 49 = .bool true := hv 11 (by decide) rfl
            simp only [PA, e49]
            clear hv hal hne hb e49
            go_upto_region 12 with fail
            refine wp_region_vd 7 [50, 51, 52, 53, 54, 55, 56] [0, 1, 2, 3] [] 84 [.int .i64 0, .int .i64 0] [isV (.slice (some ⟨g, 0, none⟩) ts.length cap), isV (.int .i64 (((kk : Nat) : Int))), isV (.slice (some ⟨g, k * 3, none⟩) ((ts.length - k)) ((cap - k))), isV (.int .i64 (((k2 : Nat) : Int))), isV (.pointer (some ⟨g, k * 3 + k2 * 3, none⟩)), isV (.agg #[.int .i64 Wd, .int .i64 Ht, .slice s1.A s1.xs.length s1.k]), isV (.pointer (some ⟨g, 0 + kk * 3, none⟩))] (by rfl) alloc_Z ?_ ?_
            · intro qi qh qA aa wx hb hs hd
              match qi, qh, qA with
              | 0, _, _ => exact .inl ⟨rfl, op_mv rfl (hs 0 rfl)⟩
              | 1, _, _ => exact .inl ⟨rfl, op_mv rfl (hs 5 rfl)⟩
              | 2, _, _ => exact .inl ⟨rfl, op_mv rfl (hs 6 rfl)⟩
              | 3, _, _ => exact .inl ⟨rfl, op_mv rfl (hs 7 rfl)⟩
              | 4, _, _ => exact .inl ⟨rfl, op_run rfl (op_idxT (by omega) rfl (hd 2 rfl) (hd 3 rfl) _) rfl⟩
              | 5, _, _ => exact .inl ⟨rfl, op_ldvT rfl rfl (hd 4 rfl) (by rw [← Nat.add_mul]; exact tcell_ld ((HE.out.to hb).get 0 rfl) HC1.out)⟩
              | 6, _, _ => exact .inl ⟨rfl, op_run rfl (op_idxT (by omega) rfl (hd 0 rfl) (hd 1 rfl) _) rfl⟩
              | qi + 7, h, _ => omega
            intro vs X3 hb hv hal hne
            replace HB := Hd.mk (bel_then HB.out hb)
            replace HE := Hd.mk (HE.out.to hb)
            have e56 : vs 56 = .pointer (some ⟨g, 0 + kk * 3, none⟩) := hv 6 (by decide) rfl
            have e55 : vs 55 = .agg #[.int .i64 Wd, .int .i64 Ht, .slice s1.A s1.xs.length s1.k] := hv 5 (by decide) rfl
            simp only [PA, e56, e55]
            clear hv hal hne hb e56 e55
            rw [Nat.zero_add]
            have hcl : cur.length = ts.length := HCI.out.len
            refine wpList_st rfl rfl rfl rfl rfl (sto_vT (HE.out.get 0 rfl) (by rw [List.length_append, tcells_len]; omega)) ?_
            have HBK : Blk (X3.setCells g (kk * 3) (encT Wd Ht s1)) g 27 ((cur.set kk s1).flatMap (encT Wd Ht) ++ rest) := put_list (HE.out.get 0 rfl) (by omega)
            have HG2 : w.grownBy (X3.setCells g (kk * 3) (encT Wd Ht s1)) (some g) := grown_trans (grown_bel HG.out HB.out) (setCells_by _ _ _)
            unfold encT at HBK HG2
            generalize World.setCells X3 g (kk * 3) [.int .i64 Wd, .int .i64 Ht, .slice s1.A s1.xs.length s1.k] = Z at *
            clear HB HE
            have HE : Hd (Env Z [⟨g, 27, (cur.set kk s1).flatMap (encT Wd Ht) ++ rest⟩]) := ⟨⟨HBK, (fun e h => by cases h), trivial⟩⟩
            have HG3 := Hd.mk HG2
            clear HBK HG2
            have HB : Hd (Below Z.heap.size Z Z) := ⟨Below.refl _ _⟩
            go_upto_region 13 with fail
            refine wp_region_vd 2 [57, 58] [0, 1] [] 84 [.int .i64 0, .int .i64 0] [isV (.int .i64 (((kk : Nat) : Int))), isV (.int .i64 ((((kk : Nat) : Int)) + 1))] (by rfl) alloc_Z ?_ ?_
            · intro qi qh qA aa wx hb hs hd
              match qi, qh, qA with
              | 0, _, _ => exact .inl ⟨rfl, op_mv rfl (hs 5 rfl)⟩
              | 1, _, _ => exact .inl ⟨rfl, ⟨_, op_add (by unfold Fit; omega) rfl (hd 0 rfl) rfl, rfl⟩⟩
              | qi + 2, h, _ => omega
            intro vs X1 hb hv hal hne
            replace HB := Hd.mk (bel_then HB.out hb)
            replace HE := Hd.mk (HE.out.to hb)
            have e58 : vs 58 = .int .i64 ((((kk : Nat) : Int)) + 1) := hv 1 (by decide) rfl
            simp only [PA, e58]
            clear hv hal hne hb e58
            go_upto_region 10 with fail
            refine wp_region_vd 2 [36, 37] [0, 1] [] 84 [.int .i64 0, .int .i64 0] [isV (.int .i64 (((k2 : Nat) : Int))), isV (.int .i64 ((((k2 : Nat) : Int)) + 1))] (by rfl) alloc_Z ?_ ?_
            · intro qi qh qA aa wx hb hs hd
              match qi, qh, qA with
              | 0, _, _ => exact .inl ⟨rfl, op_mv rfl (hs 7 rfl)⟩
              | 1, _, _ => exact .inl ⟨rfl, ⟨_, op_add (by unfold Fit; omega) rfl (hd 0 rfl) rfl, rfl⟩⟩
              | qi + 2, h, _ => omega
            intro vs X2 hb hv hal hne
            replace HB := Hd.mk (bel_then HB.out hb)
            replace HE := Hd.mk (HE.out.to hb)
            have e37 : vs 37 = .int .i64 ((((k2 : Nat) : Int)) + 1) := hv 1 (by decide) rfl
            simp only [PA, e37]
            clear hv hal hne hb e37
            go_wp2_with fail
            go_roundw
            case rel => exact ⟨kk + 1, k2 + 1, cur.set kk s1, by go_num, by go_num, by omega, by omega, HCI.out.keep (by omega) HS1.out HDX.out, HE.out.get 0 rfl, grown_bel HG3.out HB.out⟩
            case measure => simp [intOf]; omega
          have e1 : k + k2 = ts.length := by omega
          go_upto_region 9 with fail
          refine wp_region_vd 4 [32, 33, 34, 35] [0, 1, 3] [] 84 [.int .i64 0, .int .i64 0] [isV (.int .i64 (((k2 : Nat) : Int))), isV (.slice (some ⟨g, k * 3, none⟩) ((ts.length - k)) ((cap - k))), isV (.int .i64 (((ts.length - k : Nat) : Int))), isV (.bool false)] (by rfl) alloc_Z ?_ ?_
          · intro qi qh qA aa wx hb hs hd
            match qi, qh, qA with
            | 0, _, _ => exact .inl ⟨rfl, op_mv rfl (hs 7 rfl)⟩
            | 1, _, _ => exact .inl ⟨rfl, op_mv rfl (hs 6 rfl)⟩
            | 2, _, _ => exact .inl ⟨rfl, op_lenT rfl rfl (hd 1 rfl)⟩
            | 3, _, _ => exact .inl ⟨rfl, pure_b (bool_eq (decide_eq_false (by omega))) (⟨_, op_lssI rfl (hd 0 rfl) (hd 2 rfl), rfl⟩)⟩
            | qi + 4, h, _ => omega
          intro vs X1 hb hv hal hne
          replace HB := Hd.mk (bel_then HB.out hb)
          replace HE := Hd.mk (HE.out.to hb)
          have e35 : vs 35 = .bool false := hv 3 (by decide) rfl
          simp only [PA, e35]
          clear hv hal hne hb e35
          have HCD : Hd (Ci ts ts.length kk cur) := ⟨by rw [← e1]; exact HCI.out⟩
          clear HCI e1
          go_upto_region 14 with fail
          refine wp_region_vd 3 [59, 60, 61] [0, 1] [] 84 [.int .i64 0, .int .i64 0] [isV (.slice (some ⟨g, 0, none⟩) ts.length cap), isV (.int .i64 (((kk : Nat) : Int))), isV (.slice (some ⟨g, kk * 3, none⟩) (ts.length - kk) (cap - kk))] (by rfl) alloc_Z ?_ ?_
          · intro qi qh qA aa wx hb hs hd
            match qi, qh, qA with
            | 0, _, _ => exact .inl ⟨rfl, op_mv rfl (hs 0 rfl)⟩
            | 1, _, _ => exact .inl ⟨rfl, op_mv rfl (hs 5 rfl)⟩
            | 2, _, _ => exact .inl ⟨rfl, op_run rfl (op_fromT (by omega) hcap rfl (hd 0 rfl) (hd 1 rfl) _) rfl⟩
            | qi + 3, h, _ => omega
          intro vs X2 hb hv hal hne
          replace HB := Hd.mk (bel_then HB.out hb)
          replace HE := Hd.mk (HE.out.to hb)
          have e61 : vs 61 = .slice (some ⟨g, kk * 3, none⟩) (ts.length - kk) (cap - kk) := hv 2 (by decide) rfl
          simp only [PA, e61]
          clear hv hal hne hb e61
          obtain ⟨zs, rest', hcl, hbk⟩ := clear_row (ty := 0) (c := cap - kk) HCD.out (HE.out.get 0 rfl)
          have HNU := Hd.mk HCD.out.num
          have HG2 := Hd.mk (grown_trans (grown_bel HG.out HB.out) (setCells_by (g := g) zs _ (kk * 3)))
          have HBK := Hd.mk hbk
          clear hbk HB HE
          go_wp2_with fail
          go_ret
          exact ⟨rest', by rw [← HNU.out]; rfl, HBK.out, HG2.out⟩
      have HDX := Hd.mk (show xsn ts k ≠ xsn ts (k - 1) by rw [xsn_of HS1.out, xsn_of HS0.out]; exact hd)
      have HDD := Hd.mk hd
      clear hd
      go_upto_region 6 with fail
      refine wp_region_vs 11 [18, 19, 20, 21, 22, 23, 24, 25, 26, 27, 28] [0, 1, 2, 5, 6, 7] [] 84 [.int .i64 0, .int .i64 0] [isV (.func (.func 79) #[] #[]), isV (.slice (some ⟨g, 0, none⟩) ts.length cap), isV (.int .i64 (((k : Nat) : Int))), isV (.pointer (some ⟨g, 0 + k * 3, none⟩)), isV (.agg #[.int .i64 Wd, .int .i64 Ht, .slice s1.A s1.xs.length s1.k]), isV (.slice (some ⟨g, 0, none⟩) ts.length cap), isV (.int .i64 (((k : Nat) : Int))), isV (.int .i64 (((k - 1 : Nat) : Int))), isV (.pointer (some ⟨g, 0 + (k - 1) * 3, none⟩)), isV (.agg #[.int .i64 Wd, .int .i64 Ht, .slice s0.A s0.xs.length s0.k]), isV (.bool false)] (by kernel_rfl) (by kernel_rfl) (by kernel_rfl) (by rfl) alloc_Z (fun d v c a w h => by cases d <;> exact h) ?_ ?_
      · intro qi qh qA aa wx hb hs hd
        match qi, qh, qA with
        | 0, _, _ => exact op_mv rfl (hs 1 rfl)
        | 1, _, _ => exact op_mv rfl (hs 0 rfl)
        | 2, _, _ => exact op_mv rfl (hs 5 rfl)
        | 3, _, _ => exact op_run rfl (op_idxT hk rfl (hd 1 rfl) (hd 2 rfl) _) rfl
        | 4, _, _ => exact op_ldvT rfl rfl (hd 3 rfl) (by rw [Nat.zero_add]; exact tcell_ld ((HE.out.to hb).get 0 rfl) HS1.out)
        | 5, _, _ => exact op_mv rfl (hs 0 rfl)
        | 6, _, _ => exact op_mv rfl (hs 5 rfl)
        | 7, _, _ => exact pure_b (int_eq (by omega)) (⟨_, op_sub (by unfold Fit; omega) rfl (hd 6 rfl) rfl, rfl⟩)
        | 8, _, _ => exact op_run rfl (op_idxT (by omega) rfl (hd 5 rfl) (hd 7 rfl) _) rfl
        | 9, _, _ => exact op_ldvT rfl rfl (hd 8 rfl) (by rw [Nat.zero_add]; exact tcell_ld ((HE.out.to hb).get 0 rfl) HS0.out)
        | 10, _, _ => exact wp_b (bool_eq (decide_eq_false HDD.out)) (op_callv2 (hd 0 rfl) rfl rfl Try.call79 (by rw [(show aa.eval (.tmp 22) = .agg #[.int .i64 Wd, .int .i64 Ht, .slice s1.A s1.xs.length s1.k] from (hd 4 rfl)), (show aa.eval (.tmp 27) = .agg #[.int .i64 Wd, .int .i64 Ht, .slice s0.A s0.xs.length s0.k] from (hd 9 rfl))]; exact Orbit1_got Wd Ht s1 s0 _ ((HOK.out s1 M1.out).1.1.to (bel_then HB.out hb)) ((HOK.out s0 M0.out).1.1.to (bel_then HB.out hb)) (by have := (HOK.out s1 M1.out).2; omega) (by have := (HOK.out s0 M0.out).2; omega)))
        | qi + 11, h, _ => omega
      intro vs X2 hb hv hal hne
      replace HB := Hd.mk (bel_then HB.out hb)
      replace HE := Hd.mk (HE.out.to hb)
      have e28 : vs 28 = .bool false := hv 10 (by decide) rfl
      simp only [PA, e28]
      clear hv hal hne hb e28
      go_upto_region 5 with fail
      refine wp_region_vd 2 [16, 17] [0, 1] [] 84 [.int .i64 0, .int .i64 0] [isV (.int .i64 (((k : Nat) : Int))), isV (.int .i64 ((((k : Nat) : Int)) + 1))] (by rfl) alloc_Z ?_ ?_
      · intro qi qh qA aa wx hb hs hd
        match qi, qh, qA with
        | 0, _, _ => exact .inl ⟨rfl, op_mv rfl (hs 5 rfl)⟩
        | 1, _, _ => exact .inl ⟨rfl, ⟨_, op_add (by unfold Fit; omega) rfl (hd 0 rfl) rfl, rfl⟩⟩
        | qi + 2, h, _ => omega
      intro vs X3 hb hv hal hne
      replace HB := Hd.mk (bel_then HB.out hb)
      replace HE := Hd.mk (HE.out.to hb)
      have e17 : vs 17 = .int .i64 ((((k : Nat) : Int)) + 1) := hv 1 (by decide) rfl
      simp only [PA, e17]
      clear hv hal hne hb e17
      go_wp2_with fail
      go_roundw
      case rel => exact ⟨k + 1, by omega, by omega, by go_num, fun i h1 h2 => by
        by_cases e : i = k
        · rw [e]; exact HDX.out
        exact HALL.out i h1 (by omega), HE.out.get 0 rfl, bel_then HW.out HB.out⟩
      case measure => simp [intOf]; omega
    have e1 : k = ts.length := by omega
    go_upto_region 4 with fail
    refine wp_region_vd 4 [12, 13, 14, 15] [0, 1, 3] [] 84 [.int .i64 0, .int .i64 0] [isV (.int .i64 (((k : Nat) : Int))), isV (.slice (some ⟨g, 0, none⟩) ts.length cap), isV (.int .i64 (((ts.length : Nat) : Int))), isV (.bool false)] (by rfl) alloc_Z ?_ ?_
    · intro qi qh qA aa wx hb hs hd
      match qi, qh, qA with
      | 0, _, _ => exact .inl ⟨rfl, op_mv rfl (hs 5 rfl)⟩
      | 1, _, _ => exact .inl ⟨rfl, op_mv rfl (hs 0 rfl)⟩
      | 2, _, _ => exact .inl ⟨rfl, op_lenT rfl rfl (hd 1 rfl)⟩
      | 3, _, _ => exact .inl ⟨rfl, pure_b (bool_eq (decide_eq_false (by omega))) (⟨_, op_lssI rfl (hd 0 rfl) (hd 2 rfl), rfl⟩)⟩
      | qi + 4, h, _ => omega
    intro vs X1 hb hv hal hne
    replace HB := Hd.mk (bel_then HB.out hb)
    replace HE := Hd.mk (HE.out.to hb)
    have e15 : vs 15 = .bool false := hv 3 (by decide) rfl
    simp only [PA, e15]
    clear hv hal hne hb e15
    have HD := Hd.mk (show ddN ts ts.length = ts by rw [ddN_all (Nat.le_refl _) (by rw [← e1]; exact HALL.out), List.take_length])
    go_wp2_with fail
    go_ret
    exact ⟨rest, by rw [HD.out]; rfl, by rw [HD.out]; exact HE.out.get 0 rfl, grown_bel (bel_grown HW.out) HB.out⟩
end Go.Proofs.Ytddbmckbankmeaa
