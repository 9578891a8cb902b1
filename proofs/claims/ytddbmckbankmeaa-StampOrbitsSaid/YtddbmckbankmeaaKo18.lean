/- Part 18 of the texts behind this claim. -/
import Derived.Test.YtddbmckbankmeaaKo11
import Derived.Test.YtddbmckbankmeaaKo13
import Derived.Test.YtddbmckbankmeaaKo17
set_option linter.unusedVariables false
set_option linter.unusedSimpArgs false
set_option linter.unusedSectionVars false
set_option linter.unnecessarySimpa false
namespace Go.Proofs.Ytddbmckbankmeaa
open Go.RowKit
section
variable {α : Type} [Inhabited α] {enc : α → List Value} {k g n : Nat} {t : TypeId} {w : World} {d d' : Array α} {rest : List Value} {os : Array Obj}
theorem flat_get (hk : ∀ x, (enc x).length = k) : ∀ (l : List α) (t : Nat), t < l.length * k → (l.flatMap enc)[t]? = some ((enc l[t / k]!)[t % k]!)
  | [], t, h => absurd h (by simp)
  | x :: l, t, h => by
    rw [List.flatMap_cons]
    have k0 : 0 < k := by
      rcases Nat.eq_zero_or_pos k with h0 | h0
      · subst h0; simp at h
      exact h0
    by_cases ht : t < k
    · rw [List.getElem?_append_left (by rw [hk]; exact ht), Nat.div_eq_of_lt ht, Nat.mod_eq_of_lt ht, List.getElem?_eq_getElem (by rw [hk]; exact ht)]
      simp [hk, ht]
    rw [List.getElem?_append_right (by rw [hk]; omega), hk, flat_get hk l (t - k) (by simp only [List.length_cons, Nat.add_mul, Nat.one_mul] at h; omega)]
    have e : t = t - k + k := by omega
    have e1 : t / k = (t - k) / k + 1 := by
      conv => lhs; rw [e]
      exact Nat.add_div_right _ k0
    have e2 : t % k = (t - k) % k := by
      conv => lhs; rw [e]
      exact Nat.add_mod_right _ _
    rw [e1, e2]
    simp
theorem flat_len (hk : ∀ x, (enc x).length = k) (l : List α) : (l.flatMap enc).length = l.length * k := by
  induction l with
  | nil => simp
  | cons x l ih => rw [List.flatMap_cons, List.length_append, ih, hk, List.length_cons, Nat.add_mul, Nat.one_mul]; omega
theorem bang (d : Array α) (i : Nat) : d.toList[i]! = d[i]! := Array.getElem!_toList
theorem holdsK_blk (hk : ∀ x, (enc x).length = k) (h : Blk w g t (d.toList.flatMap enc ++ rest)) : Go.Sort.HoldsK enc k w g 0 d := fun j hj => by
  rw [Go.Sort.size_flatK] at hj
  refine ⟨?_, h.frozen _⟩
  rw [Nat.zero_add, h.cell j, List.getElem?_append_left (by rw [flat_len hk]; simpa using hj), flat_get hk _ _ (by simpa using hj)]
  show _ = some (Go.Sort.flatK enc k d)[j]!
  rw [Go.Sort.get_flatK _ _ _ _ hj, bang d]
theorem sorted_blk (hk : ∀ x, (enc x).length = k) (h : Blk w g t (d.toList.flatMap enc ++ rest)) (hs : d'.size = d.size) : Blk (Go.Proofs.sortWorldK enc k w g 0 n d' os) g t (d'.toList.flatMap enc ++ rest) := by
  have hlt := h.lt
  have h' : w.heap[g]? = some (.cells (d.toList.flatMap enc ++ rest).toArray t (0, 0)) := h
  unfold Go.Proofs.sortWorldK Go.Sort.putRowK Go.Sort.putRow Go.Sort.mapBlock Go.Sort.grow Go.Sort.ahead Blk
  simp only
  rw [Array.getElem?_append_left (by simpa using hlt), Array.getElem?_modify, if_pos rfl, h', Option.map_some]
  unfold Go.Sort.onCells
  simp only
  congr 2
  apply Array.ext'
  unfold Go.Sort.putCells
  simp only [Array.toList_mapIdx]
  refine List.ext_getElem? fun q => ?_
  rw [List.getElem?_mapIdx, Go.Sort.size_flatK]
  by_cases hq : q < d'.size * k
  · rw [List.getElem?_append_left (by rw [flat_len hk]; simpa [← hs] using hq), List.getElem?_append_left (by rw [flat_len hk]; simpa using hq), flat_get hk _ _ (by simpa [← hs] using hq), flat_get hk _ _ (by simpa using hq), Option.map_some, if_pos ⟨by omega, by omega⟩, Nat.sub_zero, Go.Sort.get_flatK _ _ _ _ hq, bang d']
    rfl
  have hl : (d.toList.flatMap enc).length = (d'.toList.flatMap enc).length := by rw [flat_len hk, flat_len hk]; simp [hs]
  rw [List.getElem?_append_right (by rw [flat_len hk]; simpa [← hs] using hq), List.getElem?_append_right (by rw [flat_len hk]; simpa using hq), hl]
  cases rest[q - (d'.toList.flatMap enc).length]? with
  | none => rfl
  | some u => rw [Option.map_some, if_neg (by omega)]
theorem grownBy_sortK : w.grownBy (Go.Proofs.sortWorldK enc k w g 0 n d' os) (some g) := by
  unfold Go.Proofs.sortWorldK Go.Sort.putRowK Go.Sort.putRow Go.Sort.mapBlock Go.Sort.grow Go.Sort.ahead
  refine ⟨rfl, rfl, rfl, by simp, fun q hq hne => ?_⟩
  simp only
  rw [Array.getElem?_append_left (by simpa using hq), Array.getElem?_modify, if_neg (fun e => hne (by rw [e]))]
end
theorem cmpI_neg (x y : Int) : cmpI y x = - cmpI x y := by unfold cmpI; split <;> split <;> first | omega | (split <;> omega)
theorem cmpL_refl : ∀ xs : List Int, cmpL xs xs = 0
  | [] => rfl
  | x :: xs => by rw [cmpL, if_pos (cmpI_zero.2 rfl), cmpL_refl xs]
theorem cmpL_neg : ∀ xs ys : List Int, cmpL ys xs = - cmpL xs ys
  | [], [] => rfl
  | [], _ :: _ => rfl
  | _ :: _, [] => rfl
  | x :: xs, y :: ys => by
    rw [cmpL, cmpL, cmpI_neg x y, cmpL_neg xs ys]
    by_cases h : cmpI x y = 0
    · rw [if_pos h, if_pos (by omega)]
    rw [if_neg h, if_neg (by omega)]
theorem cmpL_zero : ∀ {xs ys : List Int}, cmpL xs ys = 0 → xs = ys
  | [], [], _ => rfl
  | [], _ :: _, h => by simp [cmpL] at h
  | _ :: _, [], h => by simp [cmpL] at h
  | x :: xs, y :: ys, h => by
    rw [cmpL] at h
    split at h
    · next h0 => rw [cmpI_zero.1 h0, cmpL_zero h]
    next h0 => exact absurd h h0
theorem cmpL_trans : ∀ {xs ys zs : List Int}, cmpL xs ys < 0 → cmpL ys zs < 0 → cmpL xs zs < 0
  | [], [], _, h, _ => by simp [cmpL] at h
  | [], _ :: _, [], _, h => by simp [cmpL] at h
  | [], _ :: _, _ :: _, _, _ => by simp [cmpL]
  | _ :: _, [], _, h, _ => by simp [cmpL] at h
  | _ :: _, _ :: _, [], _, h => by simp [cmpL] at h
  | x :: xs, y :: ys, z :: zs, h, k => by
    rw [cmpL] at h k ⊢
    have a := cmpI_lt x y
    have b := cmpI_lt y z
    have c := cmpI_lt x z
    by_cases h1 : cmpI x y = 0
    · rw [if_pos h1] at h
      by_cases h2 : cmpI y z = 0
      · rw [if_pos h2] at k
        rw [if_pos (by omega)]
        exact cmpL_trans h k
      rw [if_neg h2] at k
      rw [if_neg (by omega)]
      omega
    rw [if_neg h1] at h
    by_cases h2 : cmpI y z = 0
    · rw [if_neg (by omega)]
      omega
    rw [if_neg h2] at k
    rw [if_neg (by omega)]
    omega
theorem ordT_same (W H : Int) (xs ys : List Int) : ordT W H xs W H ys = cmpL xs ys := by
  unfold ordT orL
  rw [if_pos (cmpI_zero.2 rfl), orL, if_pos (cmpI_zero.2 rfl), orL, orL]
  split
  · next h => exact h.symm
  rfl
theorem swo_of {α : Type} [Inhabited α] (cf : α → α → Int) (hn : ∀ x y, cf y x = - cf x y) (hz : ∀ x y z, cf x y = 0 → cf x z = cf y z ∧ cf z x = cf z y) (ht : ∀ x y z, cf x y < 0 → cf y z < 0 → cf x z < 0) : Go.Sort.SWO (ltOf cf) where
  irrefl x := by have := hn x x; unfold ltOf; simp; omega
  trans x y z h k := by unfold ltOf at *; simp at *; exact ht x y z h k
  ntrans x y z h k := by
    unfold ltOf at *
    simp at *
    by_cases h1 : cf x y = 0
    · rw [(hz x y z h1).1]; exact k
    by_cases h2 : cf y z = 0
    · rw [← (hz y z x h2).2]; exact h
    have := ht z y x (by rw [hn y z]; omega) (by rw [hn x y]; omega)
    rw [hn x z] at this
    omega
end Go.Proofs.Ytddbmckbankmeaa
set_option linter.unusedVariables false
set_option linter.unusedSimpArgs false
namespace Go.Proofs.Ytddbmckbankmeaa
open Go.RowKit
structure Sl where
  A : Option Addr
  k : Nat
  xs : List Int
instance : Inhabited Sl := ⟨⟨none, 0, []⟩⟩
def Sl.ok (w : World) (s : Sl) : Prop := CellsI w s.A s.xs ∧ s.xs.length ≤ 1000000
def encT (W H : Int) (s : Sl) : List Value := [.int .i64 W, .int .i64 H, .slice s.A s.xs.length s.k]
instance : Inhabited Mv := ⟨⟨0, 0, 0, false⟩⟩
theorem CellsI.ne {w : World} {A : Option Addr} {ys : List Int} {g : Nat} {t : TypeId} {us : List Value} (h : CellsI w A ys) (hb : Blk w g t us) (ht : t ≠ 3) : ∀ ad, A = some ad → ad.block ≠ g ∧ ad.block < w.heap.size := fun ad e => by
  obtain ⟨cur, hc⟩ := h.2 ad e
  have hlt : ad.block < w.heap.size := (Array.getElem?_eq_some_iff.1 hc).1
  refine ⟨fun e2 => ?_, hlt⟩
  rw [e2] at hc
  unfold Blk at hb
  rw [hb] at hc
  injection hc with hc
  injection hc with _ hc
  exact ht hc
theorem CellsI.by_ {w w' : World} {A : Option Addr} {ys : List Int} {g : Nat} (h : CellsI w A ys) (hg : w.grownBy w' (some g)) (hne : ∀ ad, A = some ad → ad.block ≠ g) : CellsI w' A ys := by
  have key : ∀ ad, A = some ad → w'.heap[ad.block]? = w.heap[ad.block]? := fun ad e => by
    obtain ⟨cur, hc⟩ := h.2 ad e
    exact hg.block _ (Array.getElem?_eq_some_iff.1 hc).1 (fun e2 => hne ad e (Option.some.inj e2))
  refine ⟨fun hn => ?_, fun ad e => ?_⟩
  · obtain ⟨ad, e, hc⟩ := h.1 hn
    refine ⟨ad, e, fun j hj => ?_⟩
    have hk : w'.cell? (ad.add j) = w.cell? (ad.add j) := World.cell?_of_block (by rw [block_of_add]; exact key ad e)
    rw [hk]
    exact hc j hj
  obtain ⟨cur, hc⟩ := h.2 ad e
  exact ⟨cur, (key ad e).trans hc⟩
section
variable {α : Type} [Inhabited α]
theorem perm_list {d d' : Array α} (h : Go.Sort.PermIn 0 d.size d d') : d'.toList.Perm d.toList := by
  have h2 := h.2.2
  have e1 : d.extract 0 d.size = d := by simp
  have e2 : d'.extract 0 d.size = d' := by rw [← h.1]; simp
  rw [e1, e2] at h2
  exact h2
theorem sorted_list {d d' : Array α} {lt : α → α → Bool} (h : Go.Sort.SortedIn lt 0 d.size d') (hs : d'.size = d.size) : d'.toList.Pairwise (fun a b => lt b a = false) := by
  rw [List.pairwise_iff_getElem]
  intro i j hi hj hij
  have h1 := h i j (Nat.zero_le _) hij (by simpa [hs] using hj)
  simp only [Array.length_toList] at hi hj
  rw [getElem!_pos _ i hi, getElem!_pos _ j hj] at h1
  simpa using h1
end
set_option maxRecDepth 100000 in
set_option maxHeartbeats 1000000 in
theorem sortT_calls (W H : Int) (g cap : Nat) (ts : List Sl) (rest : List Value) (w : World) (hb : Blk w g 27 (ts.flatMap (encT W H) ++ rest)) (hok : ∀ s ∈ ts, s.ok w) (hl : ts.length ≤ 1000000) :
    Calls Try.prog 77 #[.slice (some ⟨g, 0, none⟩) ts.length cap, .func (.func 76) #[] #[]] w fun e w' => e = .returned (.tuple #[]) ∧
      ∃ ts' : List Sl, ts'.Perm ts ∧ ts'.Pairwise (fun a b => cmpL a.xs b.xs ≤ 0) ∧ Blk w' g 27 (ts'.flatMap (encT W H) ++ rest) ∧ w.grownBy w' (some g) := by
  have hne : ∀ s : Sl, s.ok w → ∀ ad, s.A = some ad → ad.block ≠ g ∧ ad.block < w.heap.size := fun s hs => hs.1.ne hb (by decide)
  letI : Inhabited {s : Sl // s.ok w} := ⟨⟨⟨none, 0, []⟩, ⟨RI.nil _ _, fun ad e => by cases e⟩, by simp⟩⟩
  have hk : ∀ x : {s : Sl // s.ok w}, (encT W H x.1).length = 3 := fun _ => rfl
  let d : Array {s : Sl // s.ok w} := (ts.pmap Subtype.mk hok).toArray
  have hd : d.toList.map Subtype.val = ts := by
    show ((ts.pmap Subtype.mk hok).toArray.toList).map _ = _
    rw [List.toList_toArray, List.map_pmap]
    simp
  have hfl : ∀ d : Array {s : Sl // s.ok w}, d.toList.flatMap (fun x => encT W H x.1) = (d.toList.map Subtype.val).flatMap (encT W H) := fun d => by rw [List.flatMap_map]
  have hds : d.size = ts.length := by show (ts.pmap Subtype.mk hok).toArray.size = _; simp
  have hB : Blk w g 27 (d.toList.flatMap (fun x => encT W H x.1) ++ rest) := by rw [hfl, hd]; exact hb
  have hO : Go.Sort.SWO (ltOf (fun x y : {s : Sl // s.ok w} => cmpL x.1.xs y.1.xs)) := swo_of _ (fun x y => cmpL_neg _ _) (fun x y z h => by rw [cmpL_zero h]; exact ⟨rfl, rfl⟩) (fun x y z h k => cmpL_trans h k)
  have hcmp : CmpLays Try.prog 76 #[] (fun x : {s : Sl // s.ok w} => encT W H x.1) 3 (fun x y => cmpL x.1.xs y.1.xs) g 0 d.size w := by
    intro m os dk hdk x y
    have hri : ∀ x : {s : Sl // s.ok w}, RI (sortWorldK (fun x : {s : Sl // s.ok w} => encT W H x.1) 3 w g 0 m dk os) x.1.A x.1.xs := fun x => (x.2.1.by_ grownBy_sortK (fun ad e => (hne _ x.2 ad e).1)).1
    have hx := x.2.2
    have hy := y.2.2
    have h := compare_x W H W H x.1.A y.1.A x.1.k y.1.k x.1.xs y.1.xs _ (hri x) (hri y) (by omega) (by omega)
    rw [ordT_same] at h
    refine h.mono ?_
    rintro e w' ⟨v, he, hbl, hv⟩
    exact ⟨by rw [he, show v = _ from hv], hbl.grow⟩
  have h := AnyQ.slices_SortFunc Try.sortT 3 Try.isAgg27 Try.sizeOf27 (fun x : {s : Sl // s.ok w} => encT W H x.1) hk (fun x v hv => by
    unfold encT at hv
    simp at hv
    rcases hv with rfl | rfl | rfl <;> rfl) (fun x y => cmpL x.1.xs y.1.xs) hO 76 #[] g 0 cap d w Try.call76 hcmp (holdsK_blk hk hB) hb.lt (by rw [hds]; omega)
  rw [hds] at h
  refine Calls.mono h ?_
  rintro e w' ⟨he, d', n, os, hp, hs, rfl⟩
  rw [← hds] at hp hs
  refine ⟨he, d'.toList.map Subtype.val, ?_, ?_, ?_, grownBy_sortK⟩
  · rw [← hd]
    exact (perm_list hp).map _
  · rw [List.pairwise_map]
    refine (sorted_list hs hp.1).imp (fun {a b} h => ?_)
    unfold ltOf at h
    simp at h
    rw [cmpL_neg]
    omega
  rw [← hfl]
  exact sorted_blk hk hB hp.1
end Go.Proofs.Ytddbmckbankmeaa
set_option linter.unusedVariables false
set_option linter.unusedSimpArgs false
set_option linter.unusedSectionVars false
set_option linter.unnecessarySimpa false
namespace Go.Proofs.Ytddbmckbankmeaa
open Go.RowKit
section
variable {w w' : World} {g o : Nat} {t : TypeId} {W H : Int} {ts : List Sl} {rest cs us : List Value} {s : Sl} {j : Nat}
theorem encT_len (W H : Int) (s : Sl) : (encT W H s).length = 3 := rfl
theorem tcells_at : ∀ {ts : List Sl} {j : Nat} {s : Sl}, ts[j]? = some s → ∀ q, q < 3 → (ts.flatMap (encT W H) ++ rest)[j * 3 + q]? = (encT W H s)[q]?
  | [], _, _, h, _, _ => by cases h
  | a :: ts, 0, s, h, q, hq => by
    obtain rfl : a = s := by simpa using h
    rw [List.flatMap_cons, List.append_assoc, List.getElem?_append_left (by rw [encT_len]; omega), Nat.zero_mul, Nat.zero_add]
  | a :: ts, j + 1, s, h, q, hq => by
    have h' : ts[j]? = some s := by simpa using h
    rw [List.flatMap_cons, List.append_assoc, List.getElem?_append_right (by rw [encT_len]; omega), encT_len, show (j + 1) * 3 + q - 3 = j * 3 + q by omega]
    exact tcells_at h' q hq
theorem tcell_ld (h : Blk w g t (ts.flatMap (encT W H) ++ rest)) (hj : ts[j]? = some s) :
    w.cell? ⟨g, j * 3, none⟩ = some (.int .i64 W) ∧ w.cell? ⟨g, j * 3 + 1, none⟩ = some (.int .i64 H) ∧ w.cell? ⟨g, j * 3 + 2, none⟩ = some (.slice s.A s.xs.length s.k) := by
  rw [h.cell, h.cell, h.cell]
  exact ⟨tcells_at (W := W) (H := H) (rest := rest) hj 0 (by omega), tcells_at hj 1 (by omega), tcells_at hj 2 (by omega)⟩
theorem tcells_len (l : List Sl) : (l.flatMap (encT W H)).length = l.length * 3 := flat_len (enc := encT W H) (k := 3) (fun _ => rfl) l
theorem blk_setCells : ∀ (vs : List Value) (w : World) (ps us rs : List Value), us.length = vs.length → Blk w g t (ps ++ us ++ rs) → Blk (w.setCells g ps.length vs) g t (ps ++ vs ++ rs)
  | [], w, ps, us, rs, hl, k => by
    obtain rfl : us = [] := List.eq_nil_of_length_eq_zero (by simpa using hl)
    exact k
  | v :: vs, w, ps, us, rs, hl, k => by
    obtain ⟨u, us, rfl⟩ : ∃ u l, us = u :: l := by
      cases us with
      | nil => simp at hl
      | cons u l => exact ⟨u, l, rfl⟩
    have k1 := k.set_ ps.length v
    have e1 : (ps ++ u :: us ++ rs).set ps.length v = (ps ++ [v]) ++ us ++ rs := by simp
    rw [e1] at k1
    have k2 := blk_setCells vs _ (ps ++ [v]) us rs (by simpa using hl) k1
    rw [List.length_append, List.length_singleton] at k2
    show Blk (World.setCells _ g (ps.length + 1) vs) g t _
    rw [show ps ++ v :: vs ++ rs = (ps ++ [v]) ++ vs ++ rs by simp]
    exact k2
theorem setCells_by : ∀ (vs : List Value) (w : World) (o : Nat), w.grownBy (w.setCells g o vs) (some g)
  | [], w, o => World.grownBy.refl w _
  | v :: vs, w, o => by
    have h := setCells_by vs (w.setCell ⟨g, o, none⟩ v) (o + 1)
    refine ⟨h.os, h.tape, h.output, by have := h.size; simpa [World.setCell] using this, fun q hq hne => ?_⟩
    have h2 := h.block q (by simpa [World.setCell] using hq) hne
    exact h2.trans (Below.heap_setCell w ⟨g, o, none⟩ v q (fun e => hne (by rw [e])))
theorem grown_trans {w1 w2 : World} {r : Option Nat} (h : w.grownBy w1 r) (k : w1.grownBy w2 r) : w.grownBy w2 r :=
  ⟨k.os.trans h.os, k.tape.trans h.tape, k.output.trans h.output, Nat.le_trans h.size k.size, fun q hq hne => (k.block q (Nat.lt_of_lt_of_le hq h.size) hne).trans (h.block q hq hne)⟩
theorem grown_bel {w1 w2 : World} {r : Option Nat} (h : w.grownBy w1 r) (k : Below w1.heap.size w1 w2) : w.grownBy w2 r :=
  ⟨k.os.trans h.os, k.tape.trans h.tape, k.output.trans h.output, Nat.le_trans h.size k.size, fun q hq hne => (k.block q (Nat.lt_of_lt_of_le hq h.size)).trans (h.block q hq hne)⟩
theorem bel_grown {r : Option Nat} (k : Below w.heap.size w w') : w.grownBy w' r := ⟨k.os, k.tape, k.output, k.size, fun q hq _ => k.block q hq⟩
theorem run_cells {P : Program} {vs : List Value} (h : Blk w g t cs) (hq : o + vs.length ≤ cs.length) (h1 : ∀ v ∈ vs, v.oneCell' = true) : (storeCells ⟨g, o, none⟩ vs 0).run P w = .ok () (w.setCells g o vs) := by
  have := run_storeCells_cells (P := P) g o vs 0 w (fun j hj => by rw [Nat.add_zero, h.cell, List.getElem?_eq_getElem (by omega)]; rfl) (fun j hj => h.frozen _) h1
  rwa [Nat.add_zero] at this
theorem sto_vT {A : Option Addr} {n k : Nat} (h : Blk w g t cs) (hq : o + 3 ≤ cs.length) : (Instr.storeAt 27 (.pointer (some ⟨g, o, none⟩)) (.agg #[.int .i64 W, .int .i64 H, .slice A n k])).run Try.prog w = .ok () (w.setCells g o [.int .i64 W, .int .i64 H, .slice A n k]) := by
  have h0 : w.cell? ⟨g, o, none⟩ = some cs[o] := (h.cell o).trans (List.getElem?_eq_getElem (by omega))
  have h1 : w.cell? ⟨g, o + 1, none⟩ = some cs[o + 1] := (h.cell (o + 1)).trans (List.getElem?_eq_getElem (by omega))
  have h2 : w.cell? ⟨g, o + 2, none⟩ = some cs[o + 2] := (h.cell (o + 2)).trans (List.getElem?_eq_getElem (by omega))
  have f0 := h.frozen o
  have f1 := h.frozen (o + 1)
  have f2 := h.frozen (o + 2)
  simp only [World.setCells]
  simp [go_sem, h0, h1, h2, f0, f1, f2]
theorem put_list (h : Blk w g t (ts.flatMap (encT W H) ++ rest)) (hj : j < ts.length) : Blk (w.setCells g (j * 3) (encT W H s)) g t ((ts.set j s).flatMap (encT W H) ++ rest) := by
  have e1 : ts.flatMap (encT W H) ++ rest = (ts.take j).flatMap (encT W H) ++ encT W H ts[j] ++ ((ts.drop (j + 1)).flatMap (encT W H) ++ rest) := by
    have e0 : ts = ts.take j ++ ts[j] :: ts.drop (j + 1) := by rw [← List.drop_eq_getElem_cons hj, List.take_append_drop]
    rw [congrArg (List.flatMap (encT W H)) e0, List.flatMap_append, List.flatMap_cons]
    simp only [List.append_assoc]
  have e2 : (ts.set j s).flatMap (encT W H) ++ rest = (ts.take j).flatMap (encT W H) ++ encT W H s ++ ((ts.drop (j + 1)).flatMap (encT W H) ++ rest) := by
    rw [List.set_eq_take_append_cons_drop, if_pos hj]
    simp [List.flatMap_append]
  rw [e1] at h
  rw [e2]
  have hl : ((ts.take j).flatMap (encT W H)).length = j * 3 := by rw [tcells_len, List.length_take, Nat.min_eq_left (by omega)]
  have := blk_setCells (encT W H s) w _ (encT W H ts[j]) _ rfl h
  rwa [hl] at this
end
section
variable {Q : Exit → Act → World → Prop} {o : Oper} {a : Act} {w : World} {d g j n k i : Nat} {x y : Operand} {t : TypeId} {W H : Int} {ts : List Sl} {rest : List Value} {s : Sl}
theorem op_idxT {b : Nat} (h1 : j < n) (ho : o.op = .indexAddr 72 x y) (hx : a.eval x = .slice (some ⟨g, b, none⟩) n k) (hy : a.eval y = .int .i64 (j : Int)) (w : World) : (execOp a.eval o).run Try.prog w = .ok (.value (.pointer (some ⟨g, b + j * 3, none⟩))) w := by
  have e : (⟨g, b, none⟩ : Addr).add (j * 3) = ⟨g, b + j * 3, none⟩ := by unfold Addr.add; split <;> simp_all
  generalize a.eval = ev at hx hy ⊢
  unfold execOp
  simp only [ho, hx, hy]
  simp [go_sem, h1, e]
theorem op_ldvT {A : Option Addr} {m c q : Nat} (ho : o.op = .load 27 x) (hd : o.dst = some d) (hx : a.eval x = .pointer (some ⟨g, q, none⟩))
    (h : w.cell? ⟨g, q, none⟩ = some (.int .i64 W) ∧ w.cell? ⟨g, q + 1, none⟩ = some (.int .i64 H) ∧ w.cell? ⟨g, q + 2, none⟩ = some (.slice A m c)) :
    o.wp Try.prog a w (Post a w d (isV (.agg #[.int .i64 W, .int .i64 H, .slice A m c])).p) Q := by
  obtain ⟨h0, h1, h2⟩ := h
  refine op_load (v := .agg #[.int .i64 W, .int .i64 H, .slice A m c]) ho hd hx ?_ rfl
  simp [go_sem, h0, h1, h2]
theorem op_lenT {A : Option Addr} (ho : o.op = .call { callee := .builtin .len, args := #[x], argTypes := #[72] }) (hd : o.dst = some d) (hx : a.eval x = .slice A n k) : o.wp Try.prog a w (Post a w d (isV (.int .i64 ((n : Nat) : Int))).p) Q := by
  refine op_run (v := .int .i64 (n : Int)) hd ?_ rfl
  generalize a.eval = ev at hx ⊢
  unfold execOp
  simp only [ho]
  simp [go_sem, hx]
theorem op_fromT (hi : i < n) (hk : n ≤ k) (ho : o.op = .slice 72 x (some y) none none) (hx : a.eval x = .slice (some ⟨g, 0, none⟩) n k) (hy : a.eval y = .int .i64 (i : Int)) (w : World) : (execOp a.eval o).run Try.prog w = .ok (.value (.slice (some ⟨g, i * 3, none⟩) (n - i) (k - i))) w := by
  have e : (⟨g, 0, none⟩ : Addr).add (i * 3) = ⟨g, i * 3, none⟩ := by unfold Addr.add; split <;> simp_all
  generalize a.eval = ev at hx hy ⊢
  unfold execOp
  simp only [ho, Option.map_some, Option.map_none, hx, hy]
  have h1 : (i : Int) ≤ (n : Int) := by omega
  have h2 : (n : Int) ≤ (k : Int) := by omega
  have h3 : ¬ k = i := by omega
  simp [go_sem, h1, h2, h3, e]
theorem run_clearT {ty : TypeId} {cs : List Value} {q m c : Nat} (hm : 0 < m) (h : Blk w g t cs) (hq : q + m * 3 ≤ cs.length) : ∃ vs : List Value, vs.length = m * 3 ∧ (Builtin.clear_ #[72] ty #[.slice (some ⟨g, q, none⟩) m c]).run Try.prog w = .ok (.tuple #[]) (w.setCells g q vs) := by
  have hz := Try.zeroValue27 w
  let z : Value := .agg #[.int .i64 0, .int .i64 0, .slice none 0 0]
  have hzs : z.cells = #[.int .i64 0, .int .i64 0, .slice none 0 0] := rfl
  have hl : (Builtin.zeroCells z.cells m).toList.length = m * 3 := by rw [hzs]; simp [Builtin.zeroCells]
  refine ⟨(Builtin.zeroCells z.cells m).toList, hl, ?_⟩
  have h2 := run_cells (P := Try.prog) (o := q) (vs := (Builtin.zeroCells z.cells m).toList) h (by rw [hl]; exact hq) (by
    intro v hv
    rw [hzs] at hv
    simp only [Builtin.zeroCells, Array.toList_map, List.mem_map, Array.toList_range, List.mem_range] at hv
    obtain ⟨i, hi, rfl⟩ := hv
    have h3 : i % (#[Value.int .i64 0, Value.int .i64 0, Value.slice none 0 0] : Array Value).size < 3 := Nat.mod_lt _ (by decide)
    generalize i % (#[Value.int .i64 0, Value.int .i64 0, Value.slice none 0 0] : Array Value).size = r at h3 ⊢
    rcases r with _ | _ | _ | r
    · rfl
    · rfl
    · rfl
    omega)
  cases m with
  | zero => omega
  | succ m =>
    unfold Builtin.clear_
    simp [run_underlying Try.underlying72, hz, h2, z] at *
end
end Go.Proofs.Ytddbmckbankmeaa
