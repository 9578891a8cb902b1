/- Part 20 of the texts behind this claim. -/
import Derived.Test.YtddbmckbankmeaaKo19
set_option linter.unusedVariables false
set_option linter.unusedSimpArgs false
set_option linter.unusedSectionVars false
set_option linter.unnecessarySimpa false
namespace Go.Proofs.Ytddbmckbankmeaa
open Go.RowKit
def keepL (W H : Int) (xs : List Int) (ms : List Mv) : List Mv := ms.filter fun m => decide (apM W H m xs = xs)
theorem keep_yes {W H : Int} {xs : List Int} {ms : List Mv} {m : Mv} {j : Nat} (hm : ms[j]? = some m) (h : apM W H m xs = xs) : keepL W H xs (ms.take (j + 1)) = keepL W H xs (ms.take j) ++ [m] := by
  unfold keepL
  rw [List.take_add_one, hm]
  simp [h]
theorem keep_no {W H : Int} {xs : List Int} {ms : List Mv} {m : Mv} {j : Nat} (hm : ms[j]? = some m) (h : apM W H m xs ≠ xs) : keepL W H xs (ms.take (j + 1)) = keepL W H xs (ms.take j) := by
  unfold keepL
  rw [List.take_add_one, hm]
  simp [h]
def isRS (xs : List Int) : SP := ⟨fun v w => ∃ A k, v = .slice A xs.length k ∧ RI w A xs, fun v w w' ⟨A, k, h1, h2⟩ hb => ⟨A, k, h1, h2.to hb⟩⟩
def OkT (w : World) (ts : List Sl) : Prop := ∀ s ∈ ts, s.ok w
def isR1 (lo : Nat) (W H : Int) (ys : List Int) : SP := ⟨fun v w => ∃ g A k, v = .slice (some ⟨g, 0, none⟩) 1 1 ∧ lo ≤ g ∧ Blk w g 27 [.int .i64 W, .int .i64 H, .slice A ys.length k] ∧ CellsI w A ys,
  fun v w w' ⟨g, A, k, h1, h2, h3, h4⟩ hb => ⟨g, A, k, h1, h2, h3.to hb, h4.to hb⟩⟩
theorem fs_cells {w : World} {g : Nat} {ys : List Int} {rest : List Value} (h : Blk w g 3 (ints ys ++ rest)) : CellsI w (some ⟨g, 0, none⟩) ys := ⟨h.ri, fun ad e => by
  injection e with e
  subst e
  exact ⟨_, h⟩⟩
section
variable {Q : Exit → Act → World → Prop} {o : Oper} {a : Act} {w w' : World} {d lo g : Nat} {x : Operand} {W H : Int} {ys : List Int} {ts : List Sl} {t : TypeId} {us vs : List Value} {off : Nat}
theorem run_fldT2 (b0 b1 b2 : Value) (W : World) : (Instr.field 27 (.agg #[b0, b1, b2]) 2).run Try.prog W = .ok b2 W := by
  simp [Instr.field, asAgg, go_sem]
theorem op_fldFS (ho : o.op = .field 27 x 2) (hd : o.dst = some d) (hx : (isFS lo W H ys).p (a.eval x) w) : o.wp Try.prog a w (Post a w d (isRS ys).p) Q := by
  obtain ⟨g, k, rest, e, _, _, _, hb⟩ := hx
  refine op_run (v := .slice (some ⟨g, 0, none⟩) ys.length k) hd ?_ ⟨_, _, rfl, hb.ri⟩
  generalize a.eval = ev at e ⊢
  unfold execOp
  simp only [ho]
  simp [go_sem, e, run_fldT2]
theorem op_row1 (ho : o.op = .buildSlice 72 1 #[(0, x)]) (hd : o.dst = some d) (hx : (isFS lo W H ys).p (a.eval x) w) (lo2 : Nat) (hl : lo2 ≤ w.heap.size) : o.wp Try.prog a w (Post a w d (isR1 lo2 W H ys).p) Q := by
  obtain ⟨g, k, rest, e, _, _, _, hb⟩ := hx
  have key : (execOp a.eval o).run Try.prog w = .ok (.value (.slice (some ⟨w.heap.size, 0, none⟩) 1 1)) (w.alloc (.cells #[.int .i64 W, .int .i64 H, .slice (some ⟨g, 0, none⟩) ys.length k] 27)) := by
    generalize a.eval = ev at e ⊢
    unfold execOp
    simp only [ho]
    simp [go_sem, e]
  unfold Oper.wp
  rw [key]
  simp only [Oper.upon, hd]
  exact ⟨_, rfl, below_alloc (Below.refl _ _) _, w.heap.size, _, k, rfl, hl, heap_alloc_new w _, (fs_cells hb).to (below_alloc (Below.refl _ _) _)⟩
theorem OkT.to (h : OkT w ts) (hb : Below w.heap.size w w') : OkT w' ts := fun s hs => (h s hs).to hb
theorem OkT.by_ (h : OkT w ts) (hg : w.grownBy w' (some g)) (hb : Blk w g t us) (ht : t ≠ 3) : OkT w' ts := fun s hs => ⟨(h s hs).1.by_ hg (fun ad e => ((h s hs).1.ne hb ht ad e).1), (h s hs).2⟩
theorem putL_by : ∀ (vs : List Value) (w : World) (o : Nat), w.grownBy (putL w g o vs) (some g)
  | [], w, o => World.grownBy.refl w _
  | v :: vs, w, o => by
    have h := putL_by vs (w.setCell ⟨g, o, none⟩ v) (o + 1)
    refine ⟨h.os, h.tape, h.output, Nat.le_trans (by simp [World.setCell]) h.size, fun q hq hne => ?_⟩
    have h2 := h.block q (by simpa [World.setCell] using hq) hne
    exact h2.trans (Below.heap_setCell w ⟨g, o, none⟩ v q (fun e => hne (by rw [e])))
def OwnT (lo : Nat) (w : World) (v : Value) (W H : Int) (ts : List Sl) : Prop := w.ownsRow lo 27 3 v ts.length (ts.flatMap (encT W H))
theorem OwnT.to {v : Value} (h : OwnT lo w v W H ts) (hb : Below w.heap.size w w') : OwnT lo w' v W H ts := own_to h hb
theorem OwnT.lt {v : Value} (h : OwnT lo w v W H ts) : ∀ k, v.ownBlock = some k → lo ≤ k ∧ k < w.heap.size := World.ownsRow.lt h
theorem OwnT.row {v : Value} (h : OwnT lo w v W H ts) (hne : ts ≠ []) : ∃ g cap rest, v = .slice (some ⟨g, 0, none⟩) ts.length cap ∧ lo ≤ g ∧ Blk w g 27 (ts.flatMap (encT W H) ++ rest) ∧ ts.length ≤ cap ∧ cap ≤ maxLen := by
  rcases h.2 with ⟨_, hn⟩ | ⟨g, cap, cur, rfl, hlo, hg, hnc, hcm, hcs, htk⟩
  · exact absurd (List.eq_nil_of_length_eq_zero hn) hne
  refine ⟨g, cap, cur.toList.drop (ts.length * 3), rfl, hlo, ?_, hnc, hcm⟩
  rw [← htk, List.take_append_drop]
  exact hg
theorem OkT.grown_ {r : Option Nat} (h : OkT w ts) (hg : w.grownBy w' r) (hne : ∀ g, r = some g → ∃ t us, Blk w g t us ∧ t ≠ 3) : OkT w' ts := by
  cases r with
  | none => exact h.to ⟨hg.os, hg.tape, hg.output, hg.size, fun k hk => hg.block k hk (by simp)⟩
  | some g =>
    obtain ⟨t, us, hb, ht⟩ := hne g rfl
    exact h.by_ hg hb ht
theorem OwnT.blk {v : Value} (h : OwnT lo w v W H ts) : ∀ g, v.ownBlock = some g → ∃ t us, Blk w g t us ∧ t ≠ 3 := fun g e => by
  rcases h.2 with ⟨rfl, _⟩ | ⟨g', cap, cur, rfl, hlo, hg, _⟩
  · cases e
  injection e with e
  obtain rfl : g' = g := e
  exact ⟨_, cur.toList, hg, by decide⟩
end
section
variable {w w' : World} {lo g o : Nat} {W H : Int} {ts : List Sl} {t : TypeId} {us vs : List Value}
theorem OkT.putB (h : OkT w ts) (hb : Blk w g t us) (ht : t ≠ 3 := by decide) : OkT (putL w g o vs) ts := h.by_ (putL_by vs w o) hb ht
theorem OwnT.put {v : Value} (h : OwnT lo w v W H ts) (hlt : ∀ k, v.ownBlock = some k → k < g) : OwnT lo (putL w g o vs) v W H ts := own_put hlt h
end
theorem Try.info_stamp : (Try.prog.info? 27).map (fun i => (i.zero, i.size, i.bytes)) = some (some (.agg #[.int .i64 0, .int .i64 0, .slice none 0 0]), 3, 40) := by kernel_rfl
def isTs (lo : Nat) (W H : Int) (xss : List (List Int)) : SP := ⟨fun v w => ∃ g k rest ts, v = .slice (some ⟨g, 0, none⟩) ts.length k ∧ ts.map Sl.xs = xss ∧ lo ≤ g ∧ Blk w g 27 (ts.flatMap (encT W H) ++ rest) ∧ OkT w ts,
  fun v w w' h hb => by
    obtain ⟨g, k, rest, ts, h1, h2, h3, h4, h5⟩ := h
    exact ⟨g, k, rest, ts, h1, h2, h3, h4.to hb, h5.to hb⟩⟩
def insX (x : List Int) : List (List Int) → List (List Int)
  | [] => [x]
  | y :: l => if cmpL y x < 0 then y :: insX x l else if cmpL y x = 0 then y :: l else x :: y :: l
def orbL (W H : Int) (xs : List Int) (ms : List Mv) : List (List Int) := (ms.map fun m => apM W H m xs).foldl (fun l x => insX x l) []
theorem mem_ins {x : List Int} : ∀ {l : List (List Int)} {z : List Int}, z ∈ insX x l ↔ z = x ∨ z ∈ l
  | [], z => by simp [insX]
  | y :: l, z => by
    rw [insX]
    split
    · rw [List.mem_cons, mem_ins, List.mem_cons]
      constructor
      · rintro (h | h | h)
        · exact .inr (.inl h)
        · exact .inl h
        exact .inr (.inr h)
      rintro (h | h | h)
      · exact .inr (.inl h)
      · exact .inl h
      exact .inr (.inr h)
    split
    · next h1 h2 =>
      have e := cmpL_zero h2
      subst e
      simp
    simp
theorem ins_rises {x : List Int} : ∀ {l : List (List Int)}, l.Pairwise (fun a b => cmpL a b < 0) → (insX x l).Pairwise (fun a b => cmpL a b < 0)
  | [], _ => by simp [insX]
  | y :: l, h => by
    rw [List.pairwise_cons] at h
    rw [insX]
    split
    · next h1 =>
      rw [List.pairwise_cons]
      refine ⟨fun z hz => ?_, ins_rises h.2⟩
      rcases mem_ins.1 hz with rfl | hz
      · exact h1
      exact h.1 z hz
    split
    · exact List.pairwise_cons.2 h
    next h1 h2 =>
    have h3 : cmpL x y < 0 := by rw [cmpL_neg]; omega
    refine List.pairwise_cons.2 ⟨fun z hz => ?_, List.pairwise_cons.2 h⟩
    rcases List.mem_cons.1 hz with rfl | hz
    · exact h3
    exact cmpL_trans h3 (h.1 z hz)
theorem fold_ins : ∀ (l acc : List (List Int)), acc.Pairwise (fun a b => cmpL a b < 0) → (l.foldl (fun l x => insX x l) acc).Pairwise (fun a b => cmpL a b < 0) ∧ ∀ z, z ∈ l.foldl (fun l x => insX x l) acc ↔ z ∈ l ∨ z ∈ acc
  | [], acc, h => ⟨h, fun z => by simp⟩
  | x :: l, acc, h => by
    obtain ⟨h1, h2⟩ := fold_ins l (insX x acc) (ins_rises h)
    refine ⟨h1, fun z => ?_⟩
    rw [List.foldl_cons, h2, mem_ins, List.mem_cons]
    constructor
    · rintro (h | h | h)
      · exact .inl (.inr h)
      · exact .inl (.inl h)
      exact .inr h
    rintro ((h | h) | h)
    · exact .inr (.inl h)
    · exact .inl h
    exact .inr (.inr h)
theorem rises_eq : ∀ {l m : List (List Int)}, l.Pairwise (fun a b => cmpL a b < 0) → m.Pairwise (fun a b => cmpL a b < 0) → (∀ z, z ∈ l ↔ z ∈ m) → l = m
  | [], [], _, _, _ => rfl
  | [], y :: m, _, _, h => by have := (h y).2 (by simp); cases this
  | x :: l, [], _, _, h => by have := (h x).1 (by simp); cases this
  | x :: l, y :: m, h1, h2, h => by
    rw [List.pairwise_cons] at h1 h2
    have e : x = y := by
      rcases List.mem_cons.1 ((h x).1 (by simp)) with e | e
      · exact e
      rcases List.mem_cons.1 ((h y).2 (by simp)) with e2 | e2
      · exact e2.symm
      have a := h2.1 x e
      have b := h1.1 y e2
      have := cmpL_trans a b
      rw [cmpL_refl] at this
      omega
    subst e
    congr 1
    refine rises_eq h1.2 h2.2 fun z => ?_
    constructor
    · intro hz
      rcases List.mem_cons.1 ((h z).1 (List.mem_cons_of_mem _ hz)) with e | e
      · subst e
        have := h1.1 z hz
        rw [cmpL_refl] at this
        omega
      exact e
    intro hz
    rcases List.mem_cons.1 ((h z).2 (List.mem_cons_of_mem _ hz)) with e | e
    · subst e
      have := h2.1 z hz
      rw [cmpL_refl] at this
      omega
    exact e
theorem ddN_rises {ts : List Sl} (hs : ts.Pairwise (fun a b => cmpL a.xs b.xs ≤ 0)) : ∀ j, 1 ≤ j → j ≤ ts.length →
    ((ddN ts j).map Sl.xs).Pairwise (fun a b => cmpL a b < 0) ∧ (∀ z ∈ (ddN ts j).map Sl.xs, cmpL z (xsn ts (j - 1)) ≤ 0) ∧ ∀ z, z ∈ (ddN ts j).map Sl.xs ↔ z ∈ (ts.take j).map Sl.xs
  | 0, h, _ => by omega
  | 1, _, hl => by
    cases ts with
    | nil => simp at hl
    | cons a l => simp [ddN, xsn, cmpL_refl]
  | j + 2, _, hl => by
    obtain ⟨h1, h2, h3⟩ := ddN_rises hs (j + 1) (by omega) (by omega)
    have hle : cmpL (xsn ts j) (xsn ts (j + 1)) ≤ 0 := by
      rw [List.pairwise_iff_getElem] at hs
      have := hs j (j + 1) (by omega) (by omega) (by omega)
      rwa [xsn_of (List.getElem?_eq_getElem (show j < ts.length by omega)), xsn_of (List.getElem?_eq_getElem (show j + 1 < ts.length by omega))]
    have htk : ts.take (j + 2) = ts.take (j + 1) ++ [ts[j + 1]] := by rw [List.take_add_one (i := j + 1), List.getElem?_eq_getElem (by omega)]; rfl
    have hx : xsn ts (j + 1) = ts[j + 1].xs := xsn_of (List.getElem?_eq_getElem (show j + 1 < ts.length by omega))
    rw [Nat.add_sub_cancel] at h2
    rw [show j + 2 - 1 = j + 1 from rfl]
    by_cases hd : xsn ts (j + 1) = xsn ts j
    · rw [ddN, if_pos hd]
      refine ⟨h1, fun z hz => by rw [hd]; exact h2 z hz, fun z => ?_⟩
      rw [h3, htk, List.map_append, List.mem_append]
      refine ⟨.inl, fun h => h.elim id fun h => ?_⟩
      obtain rfl : z = ts[j + 1].xs := by simpa using h
      rw [← hx, hd, xsn_of (List.getElem?_eq_getElem (show j < ts.length by omega))]
      exact List.mem_map.2 ⟨ts[j], List.mem_of_getElem? (i := j) (by rw [List.getElem?_take, if_pos (by omega), List.getElem?_eq_getElem (by omega)]), rfl⟩
    have hlt : cmpL (xsn ts j) (xsn ts (j + 1)) < 0 := by
      have : cmpL (xsn ts j) (xsn ts (j + 1)) ≠ 0 := fun e => hd (cmpL_zero e).symm
      omega
    have hlt2 : ∀ z ∈ (ddN ts (j + 1)).map Sl.xs, cmpL z (xsn ts (j + 1)) < 0 := fun z hz => by
      by_cases e : cmpL z (xsn ts j) = 0
      · rw [cmpL_zero e]; exact hlt
      exact cmpL_trans (by have := h2 z hz; omega) hlt
    have hg : ts.getD (j + 1) default = ts[j + 1] := by rw [List.getD_eq_getElem?_getD, List.getElem?_eq_getElem (by omega)]; rfl
    rw [ddN, if_neg hd, hg, List.map_append]
    refine ⟨List.pairwise_append.2 ⟨h1, by simp, fun a ha b hb => ?_⟩, fun z hz => ?_, fun z => ?_⟩
    · obtain rfl : b = ts[j + 1].xs := by simpa using hb
      rw [← hx]
      exact hlt2 a ha
    · rcases List.mem_append.1 hz with hz | hz
      · exact Int.le_of_lt (hlt2 z hz)
      obtain rfl : z = ts[j + 1].xs := by simpa using hz
      rw [hx, cmpL_refl]
      exact Int.le_refl _
    rw [List.mem_append, h3, htk, List.map_append, List.mem_append]
theorem orb_of {W H : Int} {xs : List Int} {ms : List Mv} {ts ts' : List Sl} (hm : ts.map Sl.xs = ms.map fun m => apM W H m xs) (hp : ts'.Perm ts) (hs : ts'.Pairwise (fun a b => cmpL a.xs b.xs ≤ 0)) (hne : ts ≠ []) : (ddN ts' ts'.length).map Sl.xs = orbL W H xs ms := by
  have hl : 1 ≤ ts'.length := by
    rw [hp.length_eq]
    cases ts with
    | nil => exact absurd rfl hne
    | cons a l => simp
  obtain ⟨h1, _, h3⟩ := ddN_rises hs ts'.length hl (Nat.le_refl _)
  obtain ⟨k1, k2⟩ := fold_ins (ms.map fun m => apM W H m xs) [] List.Pairwise.nil
  unfold orbL
  refine rises_eq h1 k1 fun z => ?_
  rw [h3, List.take_length, k2, ← hm]
  simp only [List.not_mem_nil, or_false]
  exact (hp.map Sl.xs).mem_iff
theorem ownS_low {lo lo' : Nat} {w : World} {v : Value} {ms : List Mv} (h : lo ≤ lo') (ho : OwnS lo' w v ms) : OwnS lo w v ms := by
  refine ⟨ho.1, ?_⟩
  rcases ho.2 with hn | ⟨g', cap, cur, rfl, hb, hgg, rest⟩
  · exact .inl hn
  exact .inr ⟨g', cap, cur, rfl, by omega, hgg, rest⟩
theorem size_nat {W H : Int} (h : sizeB W H = true) : ∃ Wn Hn : Nat, W = Wn ∧ H = Hn ∧ sizeB Wn Hn = true := by
  have hb := sizeB_bounds h
  exact ⟨W.toNat, H.toNat, by omega, by omega, by rw [show ((W.toNat : Nat) : Int) = W by omega, show ((H.toNat : Nat) : Int) = H by omega]; exact h⟩
theorem group_all {W H : Int} {ms : List Mv} (h : gB W H ms = true) (hs : sizeB W H = true) : ∀ i, i < ms.length → Al W H (nthM ms i) := by
  obtain ⟨Wn, Hn, rfl, rfl, hs'⟩ := size_nat hs
  exact group_not h hs'
theorem group_nz {W H : Int} {ms : List Mv} (h : gB W H ms = true) (hs : sizeB W H = true) : 0 < ms.length := by
  obtain ⟨Wn, Hn, rfl, rfl, hs'⟩ := size_nat hs
  exact List.length_pos_of_mem (memB_iff.1 ((gB_iff hs' ms).1 h).2.2.1)
set_option maxRecDepth 100000 in
set_option maxHeartbeats 1000000 in
theorem Keeps_no (Wd Ht : Int) (A : Option Addr) (k : Nat) (ms : List Mv) (B : Option Addr) (c : Nat) (xs : List Int) (w : World) (hrm : RdM w A ms) (hln : ms.length ≤ 100000) (hri : RI w B xs) (hn : (validB Wd Ht xs && gB Wd Ht ms) = false) :
    Calls Try.prog 45 #[.slice A ms.length k, .agg #[.int .i64 Wd, .int .i64 Ht, .slice B xs.length c]] w (Got w (isP (isV (.slice none 0 0)) (isV (.int .i64 2))).p) := by
  have HRM := Hd.mk hrm
  have HRI := Hd.mk hri
  clear hrm hri
  by_cases hv : validB Wd Ht xs = true
  · have hg : gB Wd Ht ms = false := by rw [hv] at hn; simpa using hn
    have HV := Hd.mk hv
    have HG := Hd.mk hg
    have HS := Hd.mk (valid_size hv)
    clear hv hg hn
    go_enter Try.func45, Try.ntmps45
    go_upto_region 1 with fail
    obtain ⟨W0, hW0⟩ : ∃ W : World, W = w.alloc (.cells #[.int .i64 Wd, .int .i64 Ht, .slice B xs.length c] 27) := ⟨_, rfl⟩
    rw [← hW0]
    obtain ⟨he, hb⟩ := env_one hW0
    have HE := Hd.mk he
    have HB := Hd.mk hb
    clear he hb hW0
    refine wp_region_vd 10 [9, 10, 11, 12, 13, 14, 15, 16, 17, 18] [2, 3, 6, 8, 9] [] 84 [.int .i64 0, .int .i64 0] [isV (.agg #[.int .i64 Wd, .int .i64 Ht, .slice B xs.length c]), isV (.bool true), isV (.bool false), isV (.bool false), isV (.agg #[.int .i64 Wd, .int .i64 Ht, .slice B xs.length c]), isV (.agg #[.int .i64 Wd, .int .i64 Ht]), isV (.slice A ms.length k), isV (.bool false), isV (.bool true), isV (.bool true)] (by rfl) alloc_Z ?_ ?_
    · intro qi qh qA aa wx hb hs hd
      match qi, qh, qA with
      | 0, _, _ => exact .inl ⟨rfl, op_ldT rfl rfl (hs 3 rfl) ((HE.out.to hb).get 0 rfl)⟩
      | 1, _, _ => exact .inl ⟨rfl, wp_b (bool_eq HV.out) (op_call1 rfl rfl Try.call16 (by rw [(show aa.eval (.tmp 9) = .agg #[.int .i64 Wd, .int .i64 Ht, .slice B xs.length c] from (hd 0 rfl))]; exact Valid_got Wd Ht B c xs _ (HRI.out.to (bel_then HB.out hb))))⟩
      | 2, _, _ => exact .inl ⟨rfl, ⟨_, op_not rfl (hd 1 rfl), rfl⟩⟩
      | 3, _, _ => exact .inl ⟨rfl, op_mv rfl (hd 2 rfl)⟩
      | 4, _, _ => exact .inl ⟨⟨rfl, .inl (hd 3 rfl)⟩, op_ldT rfl rfl (hs 3 rfl) ((HE.out.to hb).get 0 rfl)⟩
      | 5, _, _ => exact .inl ⟨⟨rfl, .inl (hd 3 rfl)⟩, op_call1 rfl rfl Try.call50 (by rw [(show aa.eval (.tmp 13) = .agg #[.int .i64 Wd, .int .i64 Ht, .slice B xs.length c] from (hd 4 rfl))]; exact size_got Wd Ht B xs.length c _)⟩
      | 6, _, _ => exact .inl ⟨⟨rfl, .inl (hd 3 rfl)⟩, op_mv rfl (hs 0 rfl)⟩
      | 7, _, _ => exact .inl ⟨⟨rfl, .inl (hd 3 rfl)⟩, wp_b (bool_eq HG.out) (op_call2 rfl rfl Try.call63 (by rw [(show aa.eval (.tmp 14) = .agg #[.int .i64 Wd, .int .i64 Ht] from (hd 5 rfl)), (show aa.eval (.tmp 15) = .slice A ms.length k from (hd 6 rfl))]; exact group_got Wd Ht A k ms _ (HRM.out.to (bel_then HB.out hb)) (by omega) HS.out))⟩
      | 8, _, _ => exact .inl ⟨⟨rfl, .inl (hd 3 rfl)⟩, ⟨_, op_not rfl (hd 7 rfl), rfl⟩⟩
      | 9, _, _ => exact .inl ⟨rfl, ⟨_, op_pickF rfl (hd 3 rfl) (hd 8 rfl), rfl⟩⟩
      | qi + 10, h, _ => omega
    intro vs X1 hb hv hal hne
    replace HB := Hd.mk (bel_then HB.out hb)
    replace HE := Hd.mk (HE.out.to hb)
    have e18 : vs 18 = .bool true := hv 9 (by decide) rfl
    simp only [PA, e18]
    clear hv hal hne hb e18
    go_upto_region 2 with fail
    refine wp_region_vd 0 [] [] [] 84 [.int .i64 0, .int .i64 0] [] (by rfl) alloc_Z ?_ ?_
    · intro qi qh qA aa wx hb hs hd
      match qi, qh, qA with
      | qi + 0, h, _ => omega
    intro vs X2 hb hv hal hne
    replace HB := Hd.mk (bel_then HB.out hb)
    replace HE := Hd.mk (HE.out.to hb)
    simp only [PA]
    clear hv hal hne hb
    go_wp2_with fail
    refine bodyPost_ret (v := .tuple #[.slice none 0 0, .int .i64 2]) (by simp [results, Try.results45, go_sem]) rfl ?_
    exact ⟨_, rfl, HB.out, _, _, rfl, rfl, rfl⟩
  have hv' : validB Wd Ht xs = false := by simpa using hv
  have HV := Hd.mk hv'
  clear hv hv' hn
  go_enter Try.func45, Try.ntmps45
  go_upto_region 1 with fail
  obtain ⟨W0, hW0⟩ : ∃ W : World, W = w.alloc (.cells #[.int .i64 Wd, .int .i64 Ht, .slice B xs.length c] 27) := ⟨_, rfl⟩
  rw [← hW0]
  obtain ⟨he, hb⟩ := env_one hW0
  have HE := Hd.mk he
  have HB := Hd.mk hb
  clear he hb hW0
  refine wp_region_vd 10 [9, 10, 11, 12, 13, 14, 15, 16, 17, 18] [2, 3, 9] [] 84 [.int .i64 0, .int .i64 0] [isV (.agg #[.int .i64 Wd, .int .i64 Ht, .slice B xs.length c]), isV (.bool false), isV (.bool true), isV (.bool true), isV undef, isV undef, isV undef, isV undef, isV undef, isV (.bool true)] (by rfl) alloc_Z ?_ ?_
  · intro qi qh qA aa wx hb hs hd
    match qi, qh, qA with
    | 0, _, _ => exact .inl ⟨rfl, op_ldT rfl rfl (hs 3 rfl) ((HE.out.to hb).get 0 rfl)⟩
    | 1, _, _ => exact .inl ⟨rfl, wp_b (bool_eq HV.out) (op_call1 rfl rfl Try.call16 (by rw [(show aa.eval (.tmp 9) = .agg #[.int .i64 Wd, .int .i64 Ht, .slice B xs.length c] from (hd 0 rfl))]; exact Valid_got Wd Ht B c xs _ (HRI.out.to (bel_then HB.out hb))))⟩
    | 2, _, _ => exact .inl ⟨rfl, ⟨_, op_not rfl (hd 1 rfl), rfl⟩⟩
    | 3, _, _ => exact .inl ⟨rfl, op_mv rfl (hd 2 rfl)⟩
    | 4, _, _ => exact .inr ⟨⟨rfl, .inl (hd 3 rfl)⟩, rfl⟩
    | 5, _, _ => exact .inr ⟨⟨rfl, .inl (hd 3 rfl)⟩, rfl⟩
    | 6, _, _ => exact .inr ⟨⟨rfl, .inl (hd 3 rfl)⟩, rfl⟩
    | 7, _, _ => exact .inr ⟨⟨rfl, .inl (hd 3 rfl)⟩, rfl⟩
    | 8, _, _ => exact .inr ⟨⟨rfl, .inl (hd 3 rfl)⟩, rfl⟩
    | 9, _, _ => exact .inl ⟨rfl, ⟨_, op_pickT rfl (hd 3 rfl) rfl, rfl⟩⟩
    | qi + 10, h, _ => omega
  intro vs X1 hb hv hal hne
  replace HB := Hd.mk (bel_then HB.out hb)
  replace HE := Hd.mk (HE.out.to hb)
  have e18 : vs 18 = .bool true := hv 9 (by decide) rfl
  simp only [PA, e18]
  clear hv hal hne hb e18
  go_upto_region 2 with fail
  refine wp_region_vd 0 [] [] [] 84 [.int .i64 0, .int .i64 0] [] (by rfl) alloc_Z ?_ ?_
  · intro qi qh qA aa wx hb hs hd
    match qi, qh, qA with
    | qi + 0, h, _ => omega
  intro vs X2 hb hv hal hne
  replace HB := Hd.mk (bel_then HB.out hb)
  replace HE := Hd.mk (HE.out.to hb)
  simp only [PA]
  clear hv hal hne hb
  go_wp2_with fail
  refine bodyPost_ret (v := .tuple #[.slice none 0 0, .int .i64 2]) (by simp [results, Try.results45, go_sem]) rfl ?_
  exact ⟨_, rfl, HB.out, _, _, rfl, rfl, rfl⟩
set_option maxRecDepth 100000 in
set_option maxHeartbeats 1000000 in
theorem Orbit_no (Wd Ht : Int) (A : Option Addr) (k : Nat) (ms : List Mv) (B : Option Addr) (c : Nat) (xs : List Int) (w : World) (hrm : RdM w A ms) (hln : ms.length ≤ 100000) (hri : RI w B xs) (hn : (validB Wd Ht xs && gB Wd Ht ms) = false) :
    Calls Try.prog 44 #[.slice A ms.length k, .agg #[.int .i64 Wd, .int .i64 Ht, .slice B xs.length c]] w (Got w (isP (isV (.slice none 0 0)) (isV (.int .i64 2))).p) := by
  have HRM := Hd.mk hrm
  have HRI := Hd.mk hri
  clear hrm hri
  by_cases hv : validB Wd Ht xs = true
  · have hg : gB Wd Ht ms = false := by rw [hv] at hn; simpa using hn
    have HV := Hd.mk hv
    have HG := Hd.mk hg
    have HS := Hd.mk (valid_size hv)
    clear hv hg hn
    go_enter Try.func44, Try.ntmps44
    go_upto_region 1 with fail
    obtain ⟨W0, hW0⟩ : ∃ W : World, W = w.alloc (.cells #[.int .i64 Wd, .int .i64 Ht, .slice B xs.length c] 27) := ⟨_, rfl⟩
    rw [← hW0]
    obtain ⟨he, hb⟩ := env_one hW0
    have HE := Hd.mk he
    have HB := Hd.mk hb
    clear he hb hW0
    refine wp_region_vd 10 [9, 10, 11, 12, 13, 14, 15, 16, 17, 18] [2, 3, 6, 8, 9] [] 84 [.int .i64 0, .int .i64 0] [isV (.agg #[.int .i64 Wd, .int .i64 Ht, .slice B xs.length c]), isV (.bool true), isV (.bool false), isV (.bool false), isV (.agg #[.int .i64 Wd, .int .i64 Ht, .slice B xs.length c]), isV (.agg #[.int .i64 Wd, .int .i64 Ht]), isV (.slice A ms.length k), isV (.bool false), isV (.bool true), isV (.bool true)] (by rfl) alloc_Z ?_ ?_
    · intro qi qh qA aa wx hb hs hd
      match qi, qh, qA with
      | 0, _, _ => exact .inl ⟨rfl, op_ldT rfl rfl (hs 3 rfl) ((HE.out.to hb).get 0 rfl)⟩
      | 1, _, _ => exact .inl ⟨rfl, wp_b (bool_eq HV.out) (op_call1 rfl rfl Try.call16 (by rw [(show aa.eval (.tmp 9) = .agg #[.int .i64 Wd, .int .i64 Ht, .slice B xs.length c] from (hd 0 rfl))]; exact Valid_got Wd Ht B c xs _ (HRI.out.to (bel_then HB.out hb))))⟩
      | 2, _, _ => exact .inl ⟨rfl, ⟨_, op_not rfl (hd 1 rfl), rfl⟩⟩
      | 3, _, _ => exact .inl ⟨rfl, op_mv rfl (hd 2 rfl)⟩
      | 4, _, _ => exact .inl ⟨⟨rfl, .inl (hd 3 rfl)⟩, op_ldT rfl rfl (hs 3 rfl) ((HE.out.to hb).get 0 rfl)⟩
      | 5, _, _ => exact .inl ⟨⟨rfl, .inl (hd 3 rfl)⟩, op_call1 rfl rfl Try.call50 (by rw [(show aa.eval (.tmp 13) = .agg #[.int .i64 Wd, .int .i64 Ht, .slice B xs.length c] from (hd 4 rfl))]; exact size_got Wd Ht B xs.length c _)⟩
      | 6, _, _ => exact .inl ⟨⟨rfl, .inl (hd 3 rfl)⟩, op_mv rfl (hs 0 rfl)⟩
      | 7, _, _ => exact .inl ⟨⟨rfl, .inl (hd 3 rfl)⟩, wp_b (bool_eq HG.out) (op_call2 rfl rfl Try.call63 (by rw [(show aa.eval (.tmp 14) = .agg #[.int .i64 Wd, .int .i64 Ht] from (hd 5 rfl)), (show aa.eval (.tmp 15) = .slice A ms.length k from (hd 6 rfl))]; exact group_got Wd Ht A k ms _ (HRM.out.to (bel_then HB.out hb)) (by omega) HS.out))⟩
      | 8, _, _ => exact .inl ⟨⟨rfl, .inl (hd 3 rfl)⟩, ⟨_, op_not rfl (hd 7 rfl), rfl⟩⟩
      | 9, _, _ => exact .inl ⟨rfl, ⟨_, op_pickF rfl (hd 3 rfl) (hd 8 rfl), rfl⟩⟩
      | qi + 10, h, _ => omega
    intro vs X1 hb hv hal hne
    replace HB := Hd.mk (bel_then HB.out hb)
    replace HE := Hd.mk (HE.out.to hb)
    have e18 : vs 18 = .bool true := hv 9 (by decide) rfl
    simp only [PA, e18]
    clear hv hal hne hb e18
    go_upto_region 2 with fail
    refine wp_region_vd 0 [] [] [] 84 [.int .i64 0, .int .i64 0] [] (by rfl) alloc_Z ?_ ?_
    · intro qi qh qA aa wx hb hs hd
      match qi, qh, qA with
      | qi + 0, h, _ => omega
    intro vs X2 hb hv hal hne
    replace HB := Hd.mk (bel_then HB.out hb)
    replace HE := Hd.mk (HE.out.to hb)
    simp only [PA]
    clear hv hal hne hb
    go_wp2_with fail
    refine bodyPost_ret (v := .tuple #[.slice none 0 0, .int .i64 2]) (by simp [results, Try.results44, go_sem]) rfl ?_
    exact ⟨_, rfl, HB.out, _, _, rfl, rfl, rfl⟩
  have hv' : validB Wd Ht xs = false := by simpa using hv
  have HV := Hd.mk hv'
  clear hv hv' hn
  go_enter Try.func44, Try.ntmps44
  go_upto_region 1 with fail
  obtain ⟨W0, hW0⟩ : ∃ W : World, W = w.alloc (.cells #[.int .i64 Wd, .int .i64 Ht, .slice B xs.length c] 27) := ⟨_, rfl⟩
  rw [← hW0]
  obtain ⟨he, hb⟩ := env_one hW0
  have HE := Hd.mk he
  have HB := Hd.mk hb
  clear he hb hW0
  refine wp_region_vd 10 [9, 10, 11, 12, 13, 14, 15, 16, 17, 18] [2, 3, 9] [] 84 [.int .i64 0, .int .i64 0] [isV (.agg #[.int .i64 Wd, .int .i64 Ht, .slice B xs.length c]), isV (.bool false), isV (.bool true), isV (.bool true), isV undef, isV undef, isV undef, isV undef, isV undef, isV (.bool true)] (by rfl) alloc_Z ?_ ?_
  · intro qi qh qA aa wx hb hs hd
    match qi, qh, qA with
    | 0, _, _ => exact .inl ⟨rfl, op_ldT rfl rfl (hs 3 rfl) ((HE.out.to hb).get 0 rfl)⟩
    | 1, _, _ => exact .inl ⟨rfl, wp_b (bool_eq HV.out) (op_call1 rfl rfl Try.call16 (by rw [(show aa.eval (.tmp 9) = .agg #[.int .i64 Wd, .int .i64 Ht, .slice B xs.length c] from (hd 0 rfl))]; exact Valid_got Wd Ht B c xs _ (HRI.out.to (bel_then HB.out hb))))⟩
    | 2, _, _ => exact .inl ⟨rfl, ⟨_, op_not rfl (hd 1 rfl), rfl⟩⟩
    | 3, _, _ => exact .inl ⟨rfl, op_mv rfl (hd 2 rfl)⟩
    | 4, _, _ => exact .inr ⟨⟨rfl, .inl (hd 3 rfl)⟩, rfl⟩
    | 5, _, _ => exact .inr ⟨⟨rfl, .inl (hd 3 rfl)⟩, rfl⟩
    | 6, _, _ => exact .inr ⟨⟨rfl, .inl (hd 3 rfl)⟩, rfl⟩
    | 7, _, _ => exact .inr ⟨⟨rfl, .inl (hd 3 rfl)⟩, rfl⟩
    | 8, _, _ => exact .inr ⟨⟨rfl, .inl (hd 3 rfl)⟩, rfl⟩
    | 9, _, _ => exact .inl ⟨rfl, ⟨_, op_pickT rfl (hd 3 rfl) rfl, rfl⟩⟩
    | qi + 10, h, _ => omega
  intro vs X1 hb hv hal hne
  replace HB := Hd.mk (bel_then HB.out hb)
  replace HE := Hd.mk (HE.out.to hb)
  have e18 : vs 18 = .bool true := hv 9 (by decide) rfl
  simp only [PA, e18]
  clear hv hal hne hb e18
  go_upto_region 2 with fail
  refine wp_region_vd 0 [] [] [] 84 [.int .i64 0, .int .i64 0] [] (by rfl) alloc_Z ?_ ?_
  · intro qi qh qA aa wx hb hs hd
    match qi, qh, qA with
    | qi + 0, h, _ => omega
  intro vs X2 hb hv hal hne
  replace HB := Hd.mk (bel_then HB.out hb)
  replace HE := Hd.mk (HE.out.to hb)
  simp only [PA]
  clear hv hal hne hb
  go_wp2_with fail
  refine bodyPost_ret (v := .tuple #[.slice none 0 0, .int .i64 2]) (by simp [results, Try.results44, go_sem]) rfl ?_
  exact ⟨_, rfl, HB.out, _, _, rfl, rfl, rfl⟩
set_option maxRecDepth 100000 in
set_option maxHeartbeats 1000000 in
theorem Keeps_ok (Wd Ht : Int) (A : Option Addr) (k : Nat) (ms : List Mv) (B : Option Addr) (c : Nat) (xs : List Int) (w : World) (hrm : RdM w A ms) (hln : ms.length ≤ 100000) (hri : RI w B xs) (hv : validB Wd Ht xs = true) (hg : gB Wd Ht ms = true) :
    Calls Try.prog 45 #[.slice A ms.length k, .agg #[.int .i64 Wd, .int .i64 Ht, .slice B xs.length c]] w (Got w (isP (isSs w.heap.size (keepL Wd Ht xs ms)) (isV (.int .i64 0))).p) := by
  have HRM := Hd.mk hrm
  have HV := Hd.mk hv
  have HG := Hd.mk hg
  have HS := Hd.mk (valid_size hv)
  have HVL := Hd.mk (valid_len hv)
  have hsh := valid_short hv
  obtain ⟨bd, rfl⟩ := valid_some hri hv
  have HRI := Hd.mk hri
  have HALL : Hd (∀ i, i < ms.length → Al Wd Ht (nthM ms i)) := ⟨group_all hg (valid_size hv)⟩
  clear hrm hri hv hg
  go_enter Try.func45, Try.ntmps45
  go_upto_region 1 with fail
  obtain ⟨W0, hW0⟩ : ∃ W : World, W = w.alloc (.cells #[.int .i64 Wd, .int .i64 Ht, .slice (some bd) xs.length c] 27) := ⟨_, rfl⟩
  rw [← hW0]
  obtain ⟨he, hb⟩ := env_one hW0
  have HE := Hd.mk he
  have HB := Hd.mk hb
  clear he hb hW0
  refine wp_region_vd 10 [9, 10, 11, 12, 13, 14, 15, 16, 17, 18] [2, 3, 6, 8, 9] [] 84 [.int .i64 0, .int .i64 0] [isV (.agg #[.int .i64 Wd, .int .i64 Ht, .slice (some bd) xs.length c]), isV (.bool true), isV (.bool false), isV (.bool false), isV (.agg #[.int .i64 Wd, .int .i64 Ht, .slice (some bd) xs.length c]), isV (.agg #[.int .i64 Wd, .int .i64 Ht]), isV (.slice A ms.length k), isV (.bool true), isV (.bool false), isV (.bool false)] (by rfl) alloc_Z ?_ ?_
  · intro qi qh qA aa wx hb hs hd
    match qi, qh, qA with
    | 0, _, _ => exact .inl ⟨rfl, op_ldT rfl rfl (hs 3 rfl) ((HE.out.to hb).get 0 rfl)⟩
    | 1, _, _ => exact .inl ⟨rfl, wp_b (bool_eq HV.out) (op_call1 rfl rfl Try.call16 (by rw [(show aa.eval (.tmp 9) = .agg #[.int .i64 Wd, .int .i64 Ht, .slice (some bd) xs.length c] from (hd 0 rfl))]; exact Valid_got Wd Ht (some bd) c xs _ (HRI.out.to (bel_then HB.out hb))))⟩
    | 2, _, _ => exact .inl ⟨rfl, ⟨_, op_not rfl (hd 1 rfl), rfl⟩⟩
    | 3, _, _ => exact .inl ⟨rfl, op_mv rfl (hd 2 rfl)⟩
    | 4, _, _ => exact .inl ⟨⟨rfl, .inl (hd 3 rfl)⟩, op_ldT rfl rfl (hs 3 rfl) ((HE.out.to hb).get 0 rfl)⟩
    | 5, _, _ => exact .inl ⟨⟨rfl, .inl (hd 3 rfl)⟩, op_call1 rfl rfl Try.call50 (by rw [(show aa.eval (.tmp 13) = .agg #[.int .i64 Wd, .int .i64 Ht, .slice (some bd) xs.length c] from (hd 4 rfl))]; exact size_got Wd Ht (some bd) xs.length c _)⟩
    | 6, _, _ => exact .inl ⟨⟨rfl, .inl (hd 3 rfl)⟩, op_mv rfl (hs 0 rfl)⟩
    | 7, _, _ => exact .inl ⟨⟨rfl, .inl (hd 3 rfl)⟩, wp_b (bool_eq HG.out) (op_call2 rfl rfl Try.call63 (by rw [(show aa.eval (.tmp 14) = .agg #[.int .i64 Wd, .int .i64 Ht] from (hd 5 rfl)), (show aa.eval (.tmp 15) = .slice A ms.length k from (hd 6 rfl))]; exact group_got Wd Ht A k ms _ (HRM.out.to (bel_then HB.out hb)) (by omega) HS.out))⟩
    | 8, _, _ => exact .inl ⟨⟨rfl, .inl (hd 3 rfl)⟩, ⟨_, op_not rfl (hd 7 rfl), rfl⟩⟩
    | 9, _, _ => exact .inl ⟨rfl, ⟨_, op_pickF rfl (hd 3 rfl) (hd 8 rfl), rfl⟩⟩
    | qi + 10, h, _ => omega
  intro vs X1 hb hv hal hne
  replace HB := Hd.mk (bel_then HB.out hb)
  replace HE := Hd.mk (HE.out.to hb)
  have e18 : vs 18 = .bool false := hv 9 (by decide) rfl
  simp only [PA, e18]
  clear hv hal hne hb e18
  go_upto_region 3 with fail
  refine wp_region_vd 0 [] [] [] 84 [.int .i64 0, .int .i64 0] [] (by rfl) alloc_Z ?_ ?_
  · intro qi qh qA aa wx hb hs hd
    match qi, qh, qA with
    | qi + 0, h, _ => omega
  intro vs X2 hb hv hal hne
  replace HB := Hd.mk (bel_then HB.out hb)
  replace HE := Hd.mk (HE.out.to hb)
  simp only [PA]
  clear hv hal hne hb
  go_upto_region 4 with fail
  refine wp_region_vd 3 [19, 20, 21] [0, 2] [] 84 [.int .i64 0, .int .i64 0] [isV (.slice A ms.length k), isV (.int .i64 (((ms.length : Nat) : Int))), isV (.int .i64 0)] (by rfl) alloc_Z ?_ ?_
  · intro qi qh qA aa wx hb hs hd
    match qi, qh, qA with
    | 0, _, _ => exact .inl ⟨rfl, op_mv rfl (hs 0 rfl)⟩
    | 1, _, _ => exact .inl ⟨rfl, op_lenvVM rfl rfl (hd 0 rfl)⟩
    | 2, _, _ => exact .inl ⟨rfl, op_mv rfl rfl⟩
    | qi + 3, h, _ => omega
  intro vs X3 hb hv hal hne
  replace HB := Hd.mk (bel_then HB.out hb)
  replace HE := Hd.mk (HE.out.to hb)
  have e19 : vs 19 = .slice A ms.length k := hv 0 (by decide) rfl
  have e20 : vs 20 = .int .i64 (((ms.length : Nat) : Int)) := hv 1 (by decide) rfl
  have e21 : vs 21 = .int .i64 0 := hv 2 (by decide) rfl
  simp only [PA, e19, e20, e21]
  clear hv hal hne hb e19 e20 e21
  have HO : Hd (OwnS (w.heap.size + 1) X3 (.slice none 0 0) []) := ⟨World.ownsRow_nil _ _ _ _⟩
  go_wp2_with fail
  go_loopw [6, 21] (fun s6 s21 wr => ∃ j : Nat, j ≤ ms.length ∧ s21 = .int .i64 j ∧ OwnS (w.heap.size + 1) wr s6 (keepL Wd Ht xs (ms.take j)) ∧ Env wr [⟨w.heap.size, 27, [.int .i64 Wd, .int .i64 Ht, .slice (some bd) xs.length c]⟩] ∧ Below w.heap.size w wr) (fun _ s21 _ => ms.length - (intOf s21).toNat)
  case atStart => exact ⟨0, Nat.zero_le _, rfl, HO.out, HE.out, HB.out⟩
  case round =>
    obtain ⟨j, hjl, rfl, ho, he, hb⟩ := hrel
    clear HB HE HO
    have HB := Hd.mk hb
    have HO := Hd.mk ho
    have HE : Hd (Env wr [⟨w.heap.size, 27, [.int .i64 Wd, .int .i64 Ht, .slice (some bd) xs.length c]⟩]) := ⟨he⟩
    clear ho he hb
    by_cases hj : j < ms.length
    · obtain ⟨m, hm⟩ : ∃ m, ms[j]? = some m := ⟨_, List.getElem?_eq_getElem hj⟩
      obtain ⟨ad, rfl⟩ := HRM.out.some_ hm
      have HMJ := Hd.mk hm
      have HAL : Hd (Al Wd Ht m) := ⟨by have h := HALL.out j hj; rwa [nthM_at hm] at h⟩
      clear hm
      go_upto_region 6 with fail
      refine wp_region_vd 3 [23, 24, 8] [] [2] 31 [.int .i64 0, .int .i64 0, .int .i64 0, .bool false] [isV (.pointer (some (ad.add (j * 4)))), isV (.agg #[.int .i64 m.x, .int .i64 m.y, .int .i64 m.t, .bool m.f]), SP.any] (by rfl) alloc_M ?_ ?_
      · intro qi qh qA aa wx hb hs hd
        match qi, qh, qA with
        | 0, _, _ => exact .inl ⟨rfl, op_run rfl (op_idxVM hj rfl (hs 19 rfl) (hs 21 rfl) _) rfl⟩
        | 1, _, _ => exact .inl ⟨rfl, op_ldvVM rfl rfl (hd 0 rfl) ((HRM.out.to (bel_then HB.out hb)).at_ HMJ.out)⟩
        | 2, _, h => cases h
        | qi + 3, h, _ => omega
      intro vs X1 hb hv hal hne
      have HL0 := Hd.mk (HE.out.lt)
      have HBW := HB
      replace HB := Hd.mk (bel_then HB.out hb)
      replace HE := Hd.mk (HE.out.to hb)
      have HOL := Hd.mk HO.out.lt
      replace HO := Hd.mk (HO.out.to hb)
      have e24 : vs 24 = .agg #[.int .i64 m.x, .int .i64 m.y, .int .i64 m.t, .bool m.f] := hv 1 (by decide) rfl
      obtain ⟨g8, e8, l8, b8⟩ : ∃ g, vs 8 = .pointer (some ⟨g, 0, none⟩) ∧ _ := hal 2 rfl
      replace HE : Hd (Env X1 [⟨w.heap.size, 27, [.int .i64 Wd, .int .i64 Ht, .slice (some bd) xs.length c]⟩, ⟨g8, 31, [.int .i64 0, .int .i64 0, .int .i64 0, .bool false]⟩]) := ⟨Env.addne (e := ⟨g8, 31, [.int .i64 0, .int .i64 0, .int .i64 0, .bool false]⟩) HE.out b8 (fun e' he => Nat.ne_of_lt (Nat.lt_of_lt_of_le (HL0.out e' he) l8))⟩
      have HOG8 : Hd (∀ k, u6.ownBlock = some k → k < g8) := ⟨fun k hk => Nat.lt_of_lt_of_le (HOL.out k hk).2 l8⟩
      have G8 : Hd (w.heap.size ≤ g8) := ⟨Nat.le_trans HBW.out.size l8⟩
      simp only [PA, e24, e8]
      clear hv hal hne hb HL0 HBW e24 e8 l8 b8 HOL
      refine wpList_st rfl rfl rfl rfl rfl (sto_M (HE.out.get 1 rfl)) ?_
      have HE' : Env (putL X1 g8 0 [.int .i64 m.x, .int .i64 m.y, .int .i64 m.t, .bool m.f]) [⟨w.heap.size, 27, [.int .i64 Wd, .int .i64 Ht, .slice (some bd) xs.length c]⟩, ⟨g8, 31, [.int .i64 m.x, .int .i64 m.y, .int .i64 m.t, .bool m.f]⟩] := HE.out.putF 1 rfl rfl
      have HB' := putL_below (show w.heap.size ≤ g8 from G8.out) [.int .i64 m.x, .int .i64 m.y, .int .i64 m.t, .bool m.f] _ 0 HB.out
      replace HO := Hd.mk (HO.out.put (vs := [.int .i64 m.x, .int .i64 m.y, .int .i64 m.t, .bool m.f]) (o := 0) HOG8.out)
      generalize putL X1 g8 0 [.int .i64 m.x, .int .i64 m.y, .int .i64 m.t, .bool m.f] = X2 at *
      replace HE := Hd.mk HE'
      replace HB := Hd.mk HB'
      clear HE' HB'
      by_cases hk : apM Wd Ht m xs = xs
      · have HK := Hd.mk hk
        clear hk
        go_upto_region 7 with fail
        refine wp_region_vs 9 [25, 26, 27, 28, 29, 30, 31, 32, 33] [6] [] 84 [.int .i64 0, .int .i64 0] [isV (.agg #[.int .i64 Wd, .int .i64 Ht, .slice (some bd) xs.length c]), isV (.agg #[.int .i64 Wd, .int .i64 Ht]), isV (.agg #[.int .i64 m.x, .int .i64 m.y, .int .i64 m.t, .bool m.f]), isV (.agg #[.int .i64 Wd, .int .i64 Ht, .slice (some bd) xs.length c]), isFS X2.heap.size Wd Ht (apM Wd Ht m xs), isRS (apM Wd Ht m xs), isV (.pointer (some ⟨w.heap.size, 2, none⟩)), isV (.slice (some bd) xs.length c), isV (.bool true)] (by kernel_rfl) (by kernel_rfl) (by kernel_rfl) (by rfl) alloc_Z (fun d v c a w h => by cases d <;> exact h) ?_ ?_
        · intro qi qh qA aa wx hb hs hd
          match qi, qh, qA with
          | 0, _, _ => exact op_ldT rfl rfl (hs 3 rfl) ((HE.out.to hb).get 0 rfl)
          | 1, _, _ => exact op_call1 rfl rfl Try.call50 (by rw [(show aa.eval (.tmp 25) = .agg #[.int .i64 Wd, .int .i64 Ht, .slice (some bd) xs.length c] from (hd 0 rfl))]; exact size_got Wd Ht (some bd) xs.length c _)
          | 2, _, _ => exact op_ldM rfl rfl (hs 8 rfl) ((HE.out.to hb).get 1 rfl)
          | 3, _, _ => exact op_ldT rfl rfl (hs 3 rfl) ((HE.out.to hb).get 0 rfl)
          | 4, _, _ => exact op_call3 rfl rfl Try.call52 (by rw [(show aa.eval (.tmp 26) = .agg #[.int .i64 Wd, .int .i64 Ht] from (hd 1 rfl)), (show aa.eval (.tmp 27) = .agg #[.int .i64 m.x, .int .i64 m.y, .int .i64 m.t, .bool m.f] from (hd 2 rfl)), (show aa.eval (.tmp 28) = .agg #[.int .i64 Wd, .int .i64 Ht, .slice (some bd) xs.length c] from (hd 3 rfl))]; exact got_fs hb.size (apply_got Wd Ht m.x m.y m.t m.f bd c xs _ (HRI.out.to (bel_then HB.out hb)) HAL.out.okm HVL.out))
          | 5, _, _ => exact op_fldFS rfl rfl (hd 4 rfl)
          | 6, _, _ => exact ⟨_, op_faT2 rfl (hs 3 rfl), rfl⟩
          | 7, _, _ => exact op_ldS rfl rfl (hd 6 rfl) ((HE.out.to hb).cell 0 2 rfl rfl)
          | 8, _, _ => exact wp_b (bool_eq (decide_eq_true HK.out)) (op_call2 rfl rfl Try.call32 (by obtain ⟨A0, k0, e0, r0⟩ := (hd 5 rfl); rw [show aa.eval (.tmp 30) = _ from e0, show aa.eval (.tmp 32) = .slice (some bd) xs.length c from (hd 7 rfl)]; exact equal_got A0 k0 (apM Wd Ht m xs) (some bd) c xs _ r0 (HRI.out.to (bel_then HB.out hb)) (by rw [apM_length]; omega) (by omega)))
          | qi + 9, h, _ => omega
        intro vs X3 hb hv hal hne
        replace HB := Hd.mk (bel_then HB.out hb)
        replace HE := Hd.mk (HE.out.to hb)
        have HOL := Hd.mk HO.out.lt
        replace HO := Hd.mk (HO.out.to hb)
        have e33 : vs 33 = .bool true := hv 8 (by decide) rfl
        simp only [PA, e33]
        clear hv hal hne hb e33 HOL
        have k26a := HE.out.cell 1 0 rfl rfl
        have k26b := HE.out.cell 1 1 rfl rfl
        have k26c := HE.out.cell 1 2 rfl rfl
        have k26d := HE.out.cell 1 3 rfl rfl
        have HLN : (keepL Wd Ht xs (ms.take j)).length ≤ 100000 := Nat.le_trans (List.length_filter_le _ _) (by rw [List.length_take]; omega)
        have HXS := Nat.le_trans HB.out.size (Nat.le_refl _)
        obtain ⟨i0, hi0, hz0, hz1, hz2⟩ := info_parts Try.info_smove
        have HTK := Hd.mk (keep_yes HMJ.out HK.out)
        generalize hms : keepL Wd Ht xs (ms.take j) = zs at HO HLN HTK
        clear hms
        have hg0 := (HE.out.get 0 rfl).lt
        go_wp2_with (first | (at_builtin; refine wpList_append_own _ rfl (.tmp 34) (.tmp 36) 54 rfl (w.heap.size + 1) 31 i0 (.agg #[.int .i64 0, .int .i64 0, .int .i64 0, .bool false]) 4 32 Try.underlying54 hi0 hz0 hz1 hz2 rfl (by decide) u6 zs.length (mcells zs) rfl (HO.out.to (below_alloc (Below.refl _ _) _)) ⟨X3.heap.size, 0, none⟩ 1 1 [.int .i64 m.x, .int .i64 m.y, .int .i64 m.t, .bool m.f] rfl rfl ?c1 ?c2 ?c3 ?c4 ?c5 ?_) | fail)
        case c1 =>
          intro z u hz
          rcases z with _ | _ | _ | _ | z <;> simp at hz <;> subst hz <;> simp [Addr.add]
        case c2 =>
          intro u hu
          simp at hu
          rcases hu with rfl | rfl | rfl | rfl <;> rfl
        case c3 => unfold maxLen; omega
        case c4 => omega
        case c5 => simp; omega
        intro v1 w1 hown1 hg1 _
        have HB1 := (below_alloc HB.out _).grown hg1 (by simp; omega) (fun z hz => Nat.le_trans (Nat.le_succ _) (HO.out.lt z hz).1)
        have HE1 := (Env.grownBy_ (HE.out.alloc_ _) hg1 (fun e he hz => by
          have h1 := HO.out.lt e.g hz.symm
          rcases List.mem_cons.1 he with rfl | he
          · exact absurd h1.1 (Nat.not_succ_le_self _)
          rw [List.mem_singleton.1 he] at hz
          exact absurd (HOG8.out _ hz.symm) (by simp)))
        have HO1 : OwnS (w.heap.size + 1) w1 v1 (keepL Wd Ht xs (ms.take (j + 1))) := by
          rw [HTK.out]
          unfold OwnS
          rw [mcells_add, List.length_append]
          exact hown1
        replace HB := Hd.mk HB1
        replace HO := Hd.mk HO1
        replace HE := Hd.mk HE1
        clear HB1 HO1 HE1 hown1 hg1
        go_wp2_with fail
        go_roundw
        case rel => exact ⟨j + 1, by omega, by go_num, HO.out, Env.front (L := [⟨w.heap.size, 27, [.int .i64 Wd, .int .i64 Ht, .slice (some bd) xs.length c]⟩]) HE.out, HB.out⟩
        case measure => simp [intOf]; omega
      have HK := Hd.mk hk
      clear hk
      go_upto_region 7 with fail
      refine wp_region_vs 9 [25, 26, 27, 28, 29, 30, 31, 32, 33] [6] [] 84 [.int .i64 0, .int .i64 0] [isV (.agg #[.int .i64 Wd, .int .i64 Ht, .slice (some bd) xs.length c]), isV (.agg #[.int .i64 Wd, .int .i64 Ht]), isV (.agg #[.int .i64 m.x, .int .i64 m.y, .int .i64 m.t, .bool m.f]), isV (.agg #[.int .i64 Wd, .int .i64 Ht, .slice (some bd) xs.length c]), isFS X2.heap.size Wd Ht (apM Wd Ht m xs), isRS (apM Wd Ht m xs), isV (.pointer (some ⟨w.heap.size, 2, none⟩)), isV (.slice (some bd) xs.length c), isV (.bool false)] (by kernel_rfl) (by kernel_rfl) (by kernel_rfl) (by rfl) alloc_Z (fun d v c a w h => by cases d <;> exact h) ?_ ?_
      · intro qi qh qA aa wx hb hs hd
        match qi, qh, qA with
        | 0, _, _ => exact op_ldT rfl rfl (hs 3 rfl) ((HE.out.to hb).get 0 rfl)
        | 1, _, _ => exact op_call1 rfl rfl Try.call50 (by rw [(show aa.eval (.tmp 25) = .agg #[.int .i64 Wd, .int .i64 Ht, .slice (some bd) xs.length c] from (hd 0 rfl))]; exact size_got Wd Ht (some bd) xs.length c _)
        | 2, _, _ => exact op_ldM rfl rfl (hs 8 rfl) ((HE.out.to hb).get 1 rfl)
        | 3, _, _ => exact op_ldT rfl rfl (hs 3 rfl) ((HE.out.to hb).get 0 rfl)
        | 4, _, _ => exact op_call3 rfl rfl Try.call52 (by rw [(show aa.eval (.tmp 26) = .agg #[.int .i64 Wd, .int .i64 Ht] from (hd 1 rfl)), (show aa.eval (.tmp 27) = .agg #[.int .i64 m.x, .int .i64 m.y, .int .i64 m.t, .bool m.f] from (hd 2 rfl)), (show aa.eval (.tmp 28) = .agg #[.int .i64 Wd, .int .i64 Ht, .slice (some bd) xs.length c] from (hd 3 rfl))]; exact got_fs hb.size (apply_got Wd Ht m.x m.y m.t m.f bd c xs _ (HRI.out.to (bel_then HB.out hb)) HAL.out.okm HVL.out))
        | 5, _, _ => exact op_fldFS rfl rfl (hd 4 rfl)
        | 6, _, _ => exact ⟨_, op_faT2 rfl (hs 3 rfl), rfl⟩
        | 7, _, _ => exact op_ldS rfl rfl (hd 6 rfl) ((HE.out.to hb).cell 0 2 rfl rfl)
        | 8, _, _ => exact wp_b (bool_eq (decide_eq_false HK.out)) (op_call2 rfl rfl Try.call32 (by obtain ⟨A0, k0, e0, r0⟩ := (hd 5 rfl); rw [show aa.eval (.tmp 30) = _ from e0, show aa.eval (.tmp 32) = .slice (some bd) xs.length c from (hd 7 rfl)]; exact equal_got A0 k0 (apM Wd Ht m xs) (some bd) c xs _ r0 (HRI.out.to (bel_then HB.out hb)) (by rw [apM_length]; omega) (by omega)))
        | qi + 9, h, _ => omega
      intro vs X3 hb hv hal hne
      replace HB := Hd.mk (bel_then HB.out hb)
      replace HE := Hd.mk (HE.out.to hb)
      have HOL := Hd.mk HO.out.lt
      replace HO := Hd.mk (HO.out.to hb)
      have e33 : vs 33 = .bool false := hv 8 (by decide) rfl
      simp only [PA, e33]
      clear hv hal hne hb e33 HOL
      go_wp2_with fail
      go_roundw
      case rel => exact ⟨j + 1, by omega, by go_num, by rw [keep_no HMJ.out HK.out]; exact HO.out, Env.front (L := [⟨w.heap.size, 27, [.int .i64 Wd, .int .i64 Ht, .slice (some bd) xs.length c]⟩]) HE.out, HB.out⟩
      case measure => simp [intOf]; omega
    have e1 : j = ms.length := by omega
    have HO1 : OwnS w.heap.size wr u6 (keepL Wd Ht xs ms) := by
      have h := HO.out
      rw [e1, List.take_length] at h
      exact ownS_low (Nat.le_succ _) h
    go_wp2_with fail
    refine bodyPost_ret (v := .tuple #[u6, .int .i64 0]) (by simp [results, Try.results45, go_sem]) rfl ?_
    exact ⟨_, rfl, HB.out, _, _, rfl, HO1, rfl⟩
end Go.Proofs.Ytddbmckbankmeaa
