/- Part 18 of the texts behind this claim. -/
import Derived.Test.YtddbmckbankmeaaKa17
set_option linter.unusedVariables false
set_option linter.unusedSimpArgs false
set_option linter.unusedSectionVars false
set_option linter.unnecessarySimpa false
namespace Go.Proofs.Ytddbmckbankmeaa
open Go.RowKit
def OkT (w : World) (ts : List Sl) : Prop := ∀ s ∈ ts, s.ok w
def isR1 (lo : Nat) (W H : Int) (ys : List Int) : SP := ⟨fun v w => ∃ g A k, v = .slice (some ⟨g, 0, none⟩) 1 1 ∧ lo ≤ g ∧ Blk w g 27 [.int .i64 W, .int .i64 H, .slice A ys.length k] ∧ CellsI w A ys,
  fun v w w' ⟨g, A, k, h1, h2, h3, h4⟩ hb => ⟨g, A, k, h1, h2, h3.to hb, h4.to hb⟩⟩
theorem fs_cells {w : World} {g : Nat} {ys : List Int} {rest : List Value} (h : Blk w g 3 (ints ys ++ rest)) : CellsI w (some ⟨g, 0, none⟩) ys := ⟨h.ri, fun ad e => by
  injection e with e
  subst e
  exact ⟨_, h⟩⟩
section
variable {Q : Exit → Act → World → Prop} {o : Oper} {a : Act} {w w' : World} {d lo g : Nat} {x : Operand} {W H : Int} {ys : List Int} {ts : List Sl} {t : TypeId} {us vs : List Value} {off : Nat}
theorem op_row1 (ho : o.op = .buildSlice 72 1 #[(0, x)]) (hd : o.dst = some d) (hx : (isFS lo W H ys).p (a.eval x) w) (lo2 : Nat) (hl : lo2 ≤ w.heap.size) : o.wp Try.prog a w (Post a w d (isR1 lo2 W H ys).p) Q := by
  obtain ⟨g, k, rest, e, _, _, _, hb⟩ := hx
  have key : (execOp a.eval o).run Try.prog w = .ok (.value (.slice (some ⟨w.heap.size, 0, none⟩) 1 1)) (w.alloc (.cells #[.int .i64 W, .int .i64 H, .slice (some ⟨g, 0, none⟩) ys.length k] 27)) := by
    generalize a.eval = ev at e ⊢
    unfold execOp
    simp only [ho]
    simp [go_sem, e]
  unfold Oper.wp
  rw [key]
  simp only [Oper.upon, hd]
  exact ⟨_, rfl, below_alloc (Below.refl _ _) _, w.heap.size, _, k, rfl, hl, heap_alloc_new w _, (fs_cells hb).to (below_alloc (Below.refl _ _) _)⟩
theorem OkT.to (h : OkT w ts) (hb : Below w.heap.size w w') : OkT w' ts := fun s hs => (h s hs).to hb
theorem OkT.by_ (h : OkT w ts) (hg : w.grownBy w' (some g)) (hb : Blk w g t us) (ht : t ≠ 3) : OkT w' ts := fun s hs => ⟨(h s hs).1.by_ hg (fun ad e => ((h s hs).1.ne hb ht ad e).1), (h s hs).2⟩
theorem putL_by : ∀ (vs : List Value) (w : World) (o : Nat), w.grownBy (putL w g o vs) (some g)
  | [], w, o => World.grownBy.refl w _
  | v :: vs, w, o => by
    have h := putL_by vs (w.setCell ⟨g, o, none⟩ v) (o + 1)
    refine ⟨h.os, h.tape, h.output, Nat.le_trans (by simp [World.setCell]) h.size, fun q hq hne => ?_⟩
    have h2 := h.block q (by simpa [World.setCell] using hq) hne
    exact h2.trans (Below.heap_setCell w ⟨g, o, none⟩ v q (fun e => hne (by rw [e])))
def OwnT (lo : Nat) (w : World) (v : Value) (W H : Int) (ts : List Sl) : Prop := w.ownsRow lo 27 3 v ts.length (ts.flatMap (encT W H))
theorem OwnT.to {v : Value} (h : OwnT lo w v W H ts) (hb : Below w.heap.size w w') : OwnT lo w' v W H ts := own_to h hb
theorem OwnT.lt {v : Value} (h : OwnT lo w v W H ts) : ∀ k, v.ownBlock = some k → lo ≤ k ∧ k < w.heap.size := World.ownsRow.lt h
theorem OwnT.row {v : Value} (h : OwnT lo w v W H ts) (hne : ts ≠ []) : ∃ g cap rest, v = .slice (some ⟨g, 0, none⟩) ts.length cap ∧ lo ≤ g ∧ Blk w g 27 (ts.flatMap (encT W H) ++ rest) ∧ ts.length ≤ cap ∧ cap ≤ maxLen := by
  rcases h.2 with ⟨_, hn⟩ | ⟨g, cap, cur, rfl, hlo, hg, hnc, hcm, hcs, htk⟩
  · exact absurd (List.eq_nil_of_length_eq_zero hn) hne
  refine ⟨g, cap, cur.toList.drop (ts.length * 3), rfl, hlo, ?_, hnc, hcm⟩
  rw [← htk, List.take_append_drop]
  exact hg
theorem OkT.grown_ {r : Option Nat} (h : OkT w ts) (hg : w.grownBy w' r) (hne : ∀ g, r = some g → ∃ t us, Blk w g t us ∧ t ≠ 3) : OkT w' ts := by
  cases r with
  | none => exact h.to ⟨hg.os, hg.tape, hg.output, hg.size, fun k hk => hg.block k hk (by simp)⟩
  | some g =>
    obtain ⟨t, us, hb, ht⟩ := hne g rfl
    exact h.by_ hg hb ht
theorem OwnT.blk {v : Value} (h : OwnT lo w v W H ts) : ∀ g, v.ownBlock = some g → ∃ t us, Blk w g t us ∧ t ≠ 3 := fun g e => by
  rcases h.2 with ⟨rfl, _⟩ | ⟨g', cap, cur, rfl, hlo, hg, _⟩
  · cases e
  injection e with e
  obtain rfl : g' = g := e
  exact ⟨_, cur.toList, hg, by decide⟩
end
section
variable {w w' : World} {lo g o : Nat} {W H : Int} {ts : List Sl} {t : TypeId} {us vs : List Value}
theorem OkT.putB (h : OkT w ts) (hb : Blk w g t us) (ht : t ≠ 3 := by decide) : OkT (putL w g o vs) ts := h.by_ (putL_by vs w o) hb ht
theorem OwnT.put {v : Value} (h : OwnT lo w v W H ts) (hlt : ∀ k, v.ownBlock = some k → k < g) : OwnT lo (putL w g o vs) v W H ts := own_put hlt h
end
theorem Try.info_stamp : (Try.prog.info? 27).map (fun i => (i.zero, i.size, i.bytes)) = some (some (.agg #[.int .i64 0, .int .i64 0, .slice none 0 0]), 3, 40) := by kernel_rfl
def isTs (lo : Nat) (W H : Int) (xss : List (List Int)) : SP := ⟨fun v w => ∃ g k rest ts, v = .slice (some ⟨g, 0, none⟩) ts.length k ∧ ts.map Sl.xs = xss ∧ lo ≤ g ∧ Blk w g 27 (ts.flatMap (encT W H) ++ rest) ∧ OkT w ts,
  fun v w w' h hb => by
    obtain ⟨g, k, rest, ts, h1, h2, h3, h4, h5⟩ := h
    exact ⟨g, k, rest, ts, h1, h2, h3, h4.to hb, h5.to hb⟩⟩
def insX (x : List Int) : List (List Int) → List (List Int)
  | [] => [x]
  | y :: l => if cmpL y x < 0 then y :: insX x l else if cmpL y x = 0 then y :: l else x :: y :: l
def orbL (W H : Int) (xs : List Int) (ms : List Mv) : List (List Int) := (ms.map fun m => apM W H m xs).foldl (fun l x => insX x l) []
theorem mem_ins {x : List Int} : ∀ {l : List (List Int)} {z : List Int}, z ∈ insX x l ↔ z = x ∨ z ∈ l
  | [], z => by simp [insX]
  | y :: l, z => by
    rw [insX]
    split
    · rw [List.mem_cons, mem_ins, List.mem_cons]
      constructor
      · rintro (h | h | h)
        · exact .inr (.inl h)
        · exact .inl h
        exact .inr (.inr h)
      rintro (h | h | h)
      · exact .inr (.inl h)
      · exact .inl h
      exact .inr (.inr h)
    split
    · next h1 h2 =>
      have e := cmpL_zero h2
      subst e
      simp
    simp
theorem ins_rises {x : List Int} : ∀ {l : List (List Int)}, l.Pairwise (fun a b => cmpL a b < 0) → (insX x l).Pairwise (fun a b => cmpL a b < 0)
  | [], _ => by simp [insX]
  | y :: l, h => by
    rw [List.pairwise_cons] at h
    rw [insX]
    split
    · next h1 =>
      rw [List.pairwise_cons]
      refine ⟨fun z hz => ?_, ins_rises h.2⟩
      rcases mem_ins.1 hz with rfl | hz
      · exact h1
      exact h.1 z hz
    split
    · exact List.pairwise_cons.2 h
    next h1 h2 =>
    have h3 : cmpL x y < 0 := by rw [cmpL_neg]; omega
    refine List.pairwise_cons.2 ⟨fun z hz => ?_, List.pairwise_cons.2 h⟩
    rcases List.mem_cons.1 hz with rfl | hz
    · exact h3
    exact cmpL_trans h3 (h.1 z hz)
theorem fold_ins : ∀ (l acc : List (List Int)), acc.Pairwise (fun a b => cmpL a b < 0) → (l.foldl (fun l x => insX x l) acc).Pairwise (fun a b => cmpL a b < 0) ∧ ∀ z, z ∈ l.foldl (fun l x => insX x l) acc ↔ z ∈ l ∨ z ∈ acc
  | [], acc, h => ⟨h, fun z => by simp⟩
  | x :: l, acc, h => by
    obtain ⟨h1, h2⟩ := fold_ins l (insX x acc) (ins_rises h)
    refine ⟨h1, fun z => ?_⟩
    rw [List.foldl_cons, h2, mem_ins, List.mem_cons]
    constructor
    · rintro (h | h | h)
      · exact .inl (.inr h)
      · exact .inl (.inl h)
      exact .inr h
    rintro ((h | h) | h)
    · exact .inr (.inl h)
    · exact .inl h
    exact .inr (.inr h)
theorem rises_eq : ∀ {l m : List (List Int)}, l.Pairwise (fun a b => cmpL a b < 0) → m.Pairwise (fun a b => cmpL a b < 0) → (∀ z, z ∈ l ↔ z ∈ m) → l = m
  | [], [], _, _, _ => rfl
  | [], y :: m, _, _, h => by have := (h y).2 (by simp); cases this
  | x :: l, [], _, _, h => by have := (h x).1 (by simp); cases this
  | x :: l, y :: m, h1, h2, h => by
    rw [List.pairwise_cons] at h1 h2
    have e : x = y := by
      rcases List.mem_cons.1 ((h x).1 (by simp)) with e | e
      · exact e
      rcases List.mem_cons.1 ((h y).2 (by simp)) with e2 | e2
      · exact e2.symm
      have a := h2.1 x e
      have b := h1.1 y e2
      have := cmpL_trans a b
      rw [cmpL_refl] at this
      omega
    subst e
    congr 1
    refine rises_eq h1.2 h2.2 fun z => ?_
    constructor
    · intro hz
      rcases List.mem_cons.1 ((h z).1 (List.mem_cons_of_mem _ hz)) with e | e
      · subst e
        have := h1.1 z hz
        rw [cmpL_refl] at this
        omega
      exact e
    intro hz
    rcases List.mem_cons.1 ((h z).2 (List.mem_cons_of_mem _ hz)) with e | e
    · subst e
      have := h2.1 z hz
      rw [cmpL_refl] at this
      omega
    exact e
theorem ddN_rises {ts : List Sl} (hs : ts.Pairwise (fun a b => cmpL a.xs b.xs ≤ 0)) : ∀ j, 1 ≤ j → j ≤ ts.length →
    ((ddN ts j).map Sl.xs).Pairwise (fun a b => cmpL a b < 0) ∧ (∀ z ∈ (ddN ts j).map Sl.xs, cmpL z (xsn ts (j - 1)) ≤ 0) ∧ ∀ z, z ∈ (ddN ts j).map Sl.xs ↔ z ∈ (ts.take j).map Sl.xs
  | 0, h, _ => by omega
  | 1, _, hl => by
    cases ts with
    | nil => simp at hl
    | cons a l => simp [ddN, xsn, cmpL_refl]
  | j + 2, _, hl => by
    obtain ⟨h1, h2, h3⟩ := ddN_rises hs (j + 1) (by omega) (by omega)
    have hle : cmpL (xsn ts j) (xsn ts (j + 1)) ≤ 0 := by
      rw [List.pairwise_iff_getElem] at hs
      have := hs j (j + 1) (by omega) (by omega) (by omega)
      rwa [xsn_of (List.getElem?_eq_getElem (show j < ts.length by omega)), xsn_of (List.getElem?_eq_getElem (show j + 1 < ts.length by omega))]
    have htk : ts.take (j + 2) = ts.take (j + 1) ++ [ts[j + 1]] := by rw [List.take_add_one (i := j + 1), List.getElem?_eq_getElem (by omega)]; rfl
    have hx : xsn ts (j + 1) = ts[j + 1].xs := xsn_of (List.getElem?_eq_getElem (show j + 1 < ts.length by omega))
    rw [Nat.add_sub_cancel] at h2
    rw [show j + 2 - 1 = j + 1 from rfl]
    by_cases hd : xsn ts (j + 1) = xsn ts j
    · rw [ddN, if_pos hd]
      refine ⟨h1, fun z hz => by rw [hd]; exact h2 z hz, fun z => ?_⟩
      rw [h3, htk, List.map_append, List.mem_append]
      refine ⟨.inl, fun h => h.elim id fun h => ?_⟩
      obtain rfl : z = ts[j + 1].xs := by simpa using h
      rw [← hx, hd, xsn_of (List.getElem?_eq_getElem (show j < ts.length by omega))]
      exact List.mem_map.2 ⟨ts[j], List.mem_of_getElem? (i := j) (by rw [List.getElem?_take, if_pos (by omega), List.getElem?_eq_getElem (by omega)]), rfl⟩
    have hlt : cmpL (xsn ts j) (xsn ts (j + 1)) < 0 := by
      have : cmpL (xsn ts j) (xsn ts (j + 1)) ≠ 0 := fun e => hd (cmpL_zero e).symm
      omega
    have hlt2 : ∀ z ∈ (ddN ts (j + 1)).map Sl.xs, cmpL z (xsn ts (j + 1)) < 0 := fun z hz => by
      by_cases e : cmpL z (xsn ts j) = 0
      · rw [cmpL_zero e]; exact hlt
      exact cmpL_trans (by have := h2 z hz; omega) hlt
    have hg : ts.getD (j + 1) default = ts[j + 1] := by rw [List.getD_eq_getElem?_getD, List.getElem?_eq_getElem (by omega)]; rfl
    rw [ddN, if_neg hd, hg, List.map_append]
    refine ⟨List.pairwise_append.2 ⟨h1, by simp, fun a ha b hb => ?_⟩, fun z hz => ?_, fun z => ?_⟩
    · obtain rfl : b = ts[j + 1].xs := by simpa using hb
      rw [← hx]
      exact hlt2 a ha
    · rcases List.mem_append.1 hz with hz | hz
      · exact Int.le_of_lt (hlt2 z hz)
      obtain rfl : z = ts[j + 1].xs := by simpa using hz
      rw [hx, cmpL_refl]
      exact Int.le_refl _
    rw [List.mem_append, h3, htk, List.map_append, List.mem_append]
theorem orb_of {W H : Int} {xs : List Int} {ms : List Mv} {ts ts' : List Sl} (hm : ts.map Sl.xs = ms.map fun m => apM W H m xs) (hp : ts'.Perm ts) (hs : ts'.Pairwise (fun a b => cmpL a.xs b.xs ≤ 0)) (hne : ts ≠ []) : (ddN ts' ts'.length).map Sl.xs = orbL W H xs ms := by
  have hl : 1 ≤ ts'.length := by
    rw [hp.length_eq]
    cases ts with
    | nil => exact absurd rfl hne
    | cons a l => simp
  obtain ⟨h1, _, h3⟩ := ddN_rises hs ts'.length hl (Nat.le_refl _)
  obtain ⟨k1, k2⟩ := fold_ins (ms.map fun m => apM W H m xs) [] List.Pairwise.nil
  unfold orbL
  refine rises_eq h1 k1 fun z => ?_
  rw [h3, List.take_length, k2, ← hm]
  simp only [List.not_mem_nil, or_false]
  exact (hp.map Sl.xs).mem_iff
theorem ownS_low {lo lo' : Nat} {w : World} {v : Value} {ms : List Mv} (h : lo ≤ lo') (ho : OwnS lo' w v ms) : OwnS lo w v ms := by
  refine ⟨ho.1, ?_⟩
  rcases ho.2 with hn | ⟨g', cap, cur, rfl, hb, hgg, rest⟩
  · exact .inl hn
  exact .inr ⟨g', cap, cur, rfl, by omega, hgg, rest⟩
theorem size_nat {W H : Int} (h : sizeB W H = true) : ∃ Wn Hn : Nat, W = Wn ∧ H = Hn ∧ sizeB Wn Hn = true := by
  have hb := sizeB_bounds h
  exact ⟨W.toNat, H.toNat, by omega, by omega, by rw [show ((W.toNat : Nat) : Int) = W by omega, show ((H.toNat : Nat) : Int) = H by omega]; exact h⟩
theorem group_all {W H : Int} {ms : List Mv} (h : gB W H ms = true) (hs : sizeB W H = true) : ∀ i, i < ms.length → Al W H (nthM ms i) := by
  obtain ⟨Wn, Hn, rfl, rfl, hs'⟩ := size_nat hs
  exact group_not h hs'
theorem group_nz {W H : Int} {ms : List Mv} (h : gB W H ms = true) (hs : sizeB W H = true) : 0 < ms.length := by
  obtain ⟨Wn, Hn, rfl, rfl, hs'⟩ := size_nat hs
  exact List.length_pos_of_mem (memB_iff.1 ((gB_iff hs' ms).1 h).2.2.1)
end Go.Proofs.Ytddbmckbankmeaa
set_option linter.unusedVariables false
set_option linter.unusedSimpArgs false
namespace Go.Proofs.Ytddbmckbankmeaa
open Go.RowKit
set_option maxRecDepth 100000 in
set_option maxHeartbeats 1000000 in
theorem Orbit_ok (Wd Ht : Int) (A : Option Addr) (k : Nat) (ms : List Mv) (B : Option Addr) (c : Nat) (xs : List Int) (w : World) (hrm : RdM w A ms) (hln : ms.length ≤ 100000) (hri : RI w B xs) (hv : validB Wd Ht xs = true) (hg : gB Wd Ht ms = true) :
    Calls Try.prog 44 #[.slice A ms.length k, .agg #[.int .i64 Wd, .int .i64 Ht, .slice B xs.length c]] w (Got w (isP (isTs w.heap.size Wd Ht (orbL Wd Ht xs ms)) (isV (.int .i64 0))).p) := by
  have HRM := Hd.mk hrm
  have HV := Hd.mk hv
  have HG := Hd.mk hg
  have HS := Hd.mk (valid_size hv)
  have HVL := Hd.mk (valid_len hv)
  have hsh := valid_short hv
  obtain ⟨bd, rfl⟩ := valid_some hri hv
  have HRI := Hd.mk hri
  have HALL : Hd (∀ i, i < ms.length → Al Wd Ht (nthM ms i)) := ⟨group_all hg (valid_size hv)⟩
  have HNZ := Hd.mk (group_nz hg (valid_size hv))
  clear hrm hri hv hg
  go_enter Try.func44, Try.ntmps44
  go_upto_region 1 with fail
  obtain ⟨W0, hW0⟩ : ∃ W : World, W = w.alloc (.cells #[.int .i64 Wd, .int .i64 Ht, .slice (some bd) xs.length c] 27) := ⟨_, rfl⟩
  rw [← hW0]
  obtain ⟨he, hb⟩ := env_one hW0
  have HE := Hd.mk he
  have HB := Hd.mk hb
  clear he hb hW0
  refine wp_region_vd 10 [9, 10, 11, 12, 13, 14, 15, 16, 17, 18] [2, 3, 6, 8, 9] [] 84 [.int .i64 0, .int .i64 0] [isV (.agg #[.int .i64 Wd, .int .i64 Ht, .slice (some bd) xs.length c]), isV (.bool true), isV (.bool false), isV (.bool false), isV (.agg #[.int .i64 Wd, .int .i64 Ht, .slice (some bd) xs.length c]), isV (.agg #[.int .i64 Wd, .int .i64 Ht]), isV (.slice A ms.length k), isV (.bool true), isV (.bool false), isV (.bool false)] (by rfl) alloc_Z ?_ ?_
  · intro qi qh qA aa wx hb hs hd
    match qi, qh, qA with
    | 0, _, _ => exact .inl ⟨rfl, op_ldT rfl rfl (hs 3 rfl) ((HE.out.to hb).get 0 rfl)⟩
    | 1, _, _ => exact .inl ⟨rfl, wp_b (bool_eq HV.out) (op_call1 rfl rfl Try.call16 (by rw [(show aa.eval (.tmp 9) = .agg #[.int .i64 Wd, .int .i64 Ht, .slice (some bd) xs.length c] from (hd 0 rfl))]; exact Valid_got Wd Ht (some bd) c xs _ (HRI.out.to (bel_then HB.out hb))))⟩
    | 2, _, _ => exact .inl ⟨rfl, ⟨_, op_not rfl (hd 1 rfl), rfl⟩⟩
    | 3, _, _ => exact .inl ⟨rfl, op_mv rfl (hd 2 rfl)⟩
    | 4, _, _ => exact .inl ⟨⟨rfl, .inl (hd 3 rfl)⟩, op_ldT rfl rfl (hs 3 rfl) ((HE.out.to hb).get 0 rfl)⟩
    | 5, _, _ => exact .inl ⟨⟨rfl, .inl (hd 3 rfl)⟩, op_call1 rfl rfl Try.call50 (by rw [(show aa.eval (.tmp 13) = .agg #[.int .i64 Wd, .int .i64 Ht, .slice (some bd) xs.length c] from (hd 4 rfl))]; exact size_got Wd Ht (some bd) xs.length c _)⟩
    | 6, _, _ => exact .inl ⟨⟨rfl, .inl (hd 3 rfl)⟩, op_mv rfl (hs 0 rfl)⟩
    | 7, _, _ => exact .inl ⟨⟨rfl, .inl (hd 3 rfl)⟩, wp_b (bool_eq HG.out) (op_call2 rfl rfl Try.call63 (by rw [(show aa.eval (.tmp 14) = .agg #[.int .i64 Wd, .int .i64 Ht] from (hd 5 rfl)), (show aa.eval (.tmp 15) = .slice A ms.length k from (hd 6 rfl))]; exact group_got Wd Ht A k ms _ (HRM.out.to (bel_then HB.out hb)) (by omega) HS.out))⟩
    | 8, _, _ => exact .inl ⟨⟨rfl, .inl (hd 3 rfl)⟩, ⟨_, op_not rfl (hd 7 rfl), rfl⟩⟩
    | 9, _, _ => exact .inl ⟨rfl, ⟨_, op_pickF rfl (hd 3 rfl) (hd 8 rfl), rfl⟩⟩
    | qi + 10, h, _ => omega
  intro vs X1 hb hv hal hne
  replace HB := Hd.mk (bel_then HB.out hb)
  replace HE := Hd.mk (HE.out.to hb)
  have e18 : vs 18 = .bool false := hv 9 (by decide) rfl
  simp only [PA, e18]
  clear hv hal hne hb e18
  go_upto_region 3 with fail
  refine wp_region_vd 0 [] [] [] 84 [.int .i64 0, .int .i64 0] [] (by rfl) alloc_Z ?_ ?_
  · intro qi qh qA aa wx hb hs hd
    match qi, qh, qA with
    | qi + 0, h, _ => omega
  intro vs X2 hb hv hal hne
  replace HB := Hd.mk (bel_then HB.out hb)
  replace HE := Hd.mk (HE.out.to hb)
  simp only [PA]
  clear hv hal hne hb
  go_upto_region 4 with fail
  refine wp_region_vd 3 [19, 20, 21] [0, 2] [] 84 [.int .i64 0, .int .i64 0] [isV (.slice A ms.length k), isV (.int .i64 (((ms.length : Nat) : Int))), isV (.int .i64 0)] (by rfl) alloc_Z ?_ ?_
  · intro qi qh qA aa wx hb hs hd
    match qi, qh, qA with
    | 0, _, _ => exact .inl ⟨rfl, op_mv rfl (hs 0 rfl)⟩
    | 1, _, _ => exact .inl ⟨rfl, op_lenvVM rfl rfl (hd 0 rfl)⟩
    | 2, _, _ => exact .inl ⟨rfl, op_mv rfl rfl⟩
    | qi + 3, h, _ => omega
  intro vs X3 hb hv hal hne
  replace HB := Hd.mk (bel_then HB.out hb)
  replace HE := Hd.mk (HE.out.to hb)
  have e19 : vs 19 = .slice A ms.length k := hv 0 (by decide) rfl
  have e20 : vs 20 = .int .i64 (((ms.length : Nat) : Int)) := hv 1 (by decide) rfl
  have e21 : vs 21 = .int .i64 0 := hv 2 (by decide) rfl
  simp only [PA, e19, e20, e21]
  clear hv hal hne hb e19 e20 e21
  have HO : Hd (OwnT (w.heap.size + 1) X3 (.slice none 0 0) Wd Ht []) := ⟨World.ownsRow_nil _ _ _ _⟩
  go_wp2_with fail
  go_loopw [6, 21] (fun s6 s21 wr => ∃ (j : Nat) (ts : List Sl), j ≤ ms.length ∧ s21 = .int .i64 j ∧ ts.map Sl.xs = (ms.take j).map (fun m => apM Wd Ht m xs) ∧ OkT wr ts ∧ OwnT (w.heap.size + 1) wr s6 Wd Ht ts ∧ Env wr [⟨w.heap.size, 27, [.int .i64 Wd, .int .i64 Ht, .slice (some bd) xs.length c]⟩] ∧ Below w.heap.size w wr) (fun _ s21 _ => ms.length - (intOf s21).toNat)
  case atStart => exact ⟨0, [], Nat.zero_le _, rfl, rfl, (fun s hs => by cases hs), HO.out, HE.out, HB.out⟩
  case round =>
    obtain ⟨j, ts, hjl, rfl, hmp, hok, ho, he, hb⟩ := hrel
    clear HB HE HO
    have HB := Hd.mk hb
    have HO := Hd.mk ho
    have HM := Hd.mk hok
    have HMP := Hd.mk hmp
    have HE : Hd (Env wr [⟨w.heap.size, 27, [.int .i64 Wd, .int .i64 Ht, .slice (some bd) xs.length c]⟩]) := ⟨he⟩
    have HTL : Hd (ts.length = j) := ⟨by have := congrArg List.length hmp; rw [List.length_map, List.length_map, List.length_take] at this; omega⟩
    have htl := HTL.out
    clear ho he hb hok hmp
    by_cases hj : j < ms.length
    · obtain ⟨m, hm⟩ : ∃ m, ms[j]? = some m := ⟨_, List.getElem?_eq_getElem hj⟩
      obtain ⟨ad, rfl⟩ := HRM.out.some_ hm
      have HMJ := Hd.mk hm
      have HAL : Hd (Al Wd Ht m) := ⟨by have h := HALL.out j hj; rwa [nthM_at hm] at h⟩
      clear hm
      go_upto_region 6 with fail
      refine wp_region_vd 3 [23, 24, 8] [] [2] 31 [.int .i64 0, .int .i64 0, .int .i64 0, .bool false] [isV (.pointer (some (ad.add (j * 4)))), isV (.agg #[.int .i64 m.x, .int .i64 m.y, .int .i64 m.t, .bool m.f]), SP.any] (by rfl) alloc_M ?_ ?_
      · intro qi qh qA aa wx hb hs hd
        match qi, qh, qA with
        | 0, _, _ => exact .inl ⟨rfl, op_run rfl (op_idxVM hj rfl (hs 19 rfl) (hs 21 rfl) _) rfl⟩
        | 1, _, _ => exact .inl ⟨rfl, op_ldvVM rfl rfl (hd 0 rfl) ((HRM.out.to (bel_then HB.out hb)).at_ HMJ.out)⟩
        | 2, _, h => cases h
        | qi + 3, h, _ => omega
      intro vs X1 hb hv hal hne
      have HL0 := Hd.mk (HE.out.lt)
      have HBW := HB
      replace HB := Hd.mk (bel_then HB.out hb)
      replace HE := Hd.mk (HE.out.to hb)
      replace HM := Hd.mk (HM.out.to hb)
      have HOL := Hd.mk HO.out.lt
      replace HO := Hd.mk (HO.out.to hb)
      have e24 : vs 24 = .agg #[.int .i64 m.x, .int .i64 m.y, .int .i64 m.t, .bool m.f] := hv 1 (by decide) rfl
      obtain ⟨g8, e8, l8, b8⟩ : ∃ g, vs 8 = .pointer (some ⟨g, 0, none⟩) ∧ _ := hal 2 rfl
      replace HE : Hd (Env X1 [⟨w.heap.size, 27, [.int .i64 Wd, .int .i64 Ht, .slice (some bd) xs.length c]⟩, ⟨g8, 31, [.int .i64 0, .int .i64 0, .int .i64 0, .bool false]⟩]) := ⟨Env.addne (e := ⟨g8, 31, [.int .i64 0, .int .i64 0, .int .i64 0, .bool false]⟩) HE.out b8 (fun e' he => Nat.ne_of_lt (Nat.lt_of_lt_of_le (HL0.out e' he) l8))⟩
      have HOG8 : Hd (∀ k, u6.ownBlock = some k → k < g8) := ⟨fun k hk => Nat.lt_of_lt_of_le (HOL.out k hk).2 l8⟩
      have G8 : Hd (w.heap.size ≤ g8) := ⟨Nat.le_trans HBW.out.size l8⟩
      simp only [PA, e24, e8]
      clear hv hal hne hb HL0 HBW e24 e8 l8 b8 HOL
      refine wpList_st rfl rfl rfl rfl rfl (sto_M (HE.out.get 1 rfl)) ?_
      have HE' : Env (putL X1 g8 0 [.int .i64 m.x, .int .i64 m.y, .int .i64 m.t, .bool m.f]) [⟨w.heap.size, 27, [.int .i64 Wd, .int .i64 Ht, .slice (some bd) xs.length c]⟩, ⟨g8, 31, [.int .i64 m.x, .int .i64 m.y, .int .i64 m.t, .bool m.f]⟩] := HE.out.putF 1 rfl rfl
      have HB' := putL_below (show w.heap.size ≤ g8 from G8.out) [.int .i64 m.x, .int .i64 m.y, .int .i64 m.t, .bool m.f] _ 0 HB.out
      replace HM := Hd.mk (HM.out.putB (vs := [.int .i64 m.x, .int .i64 m.y, .int .i64 m.t, .bool m.f]) (o := 0) (HE.out.get 1 rfl))
      replace HO := Hd.mk (HO.out.put (vs := [.int .i64 m.x, .int .i64 m.y, .int .i64 m.t, .bool m.f]) (o := 0) HOG8.out)
      generalize putL X1 g8 0 [.int .i64 m.x, .int .i64 m.y, .int .i64 m.t, .bool m.f] = X2 at *
      replace HE := Hd.mk HE'
      replace HB := Hd.mk HB'
      clear HE' HB'
      go_upto_region 7 with fail
      refine wp_region_vs 7 [25, 26, 27, 28, 29, 30, 31] [0] [] 84 [.int .i64 0, .int .i64 0] [isV (u6), isV (.agg #[.int .i64 Wd, .int .i64 Ht, .slice (some bd) xs.length c]), isV (.agg #[.int .i64 Wd, .int .i64 Ht]), isV (.agg #[.int .i64 m.x, .int .i64 m.y, .int .i64 m.t, .bool m.f]), isV (.agg #[.int .i64 Wd, .int .i64 Ht, .slice (some bd) xs.length c]), isFS X2.heap.size Wd Ht (apM Wd Ht m xs), isR1 X2.heap.size Wd Ht (apM Wd Ht m xs)] (by kernel_rfl) (by kernel_rfl) (by kernel_rfl) (by rfl) alloc_Z (fun d v c a w h => by cases d <;> exact h) ?_ ?_
      · intro qi qh qA aa wx hb hs hd
        match qi, qh, qA with
        | 0, _, _ => exact op_mv rfl (hs 6 rfl)
        | 1, _, _ => exact op_ldT rfl rfl (hs 3 rfl) ((HE.out.to hb).get 0 rfl)
        | 2, _, _ => exact op_call1 rfl rfl Try.call50 (by rw [(show aa.eval (.tmp 26) = .agg #[.int .i64 Wd, .int .i64 Ht, .slice (some bd) xs.length c] from (hd 1 rfl))]; exact size_got Wd Ht (some bd) xs.length c _)
        | 3, _, _ => exact op_ldM rfl rfl (hs 8 rfl) ((HE.out.to hb).get 1 rfl)
        | 4, _, _ => exact op_ldT rfl rfl (hs 3 rfl) ((HE.out.to hb).get 0 rfl)
        | 5, _, _ => exact op_call3 rfl rfl Try.call52 (by rw [(show aa.eval (.tmp 27) = .agg #[.int .i64 Wd, .int .i64 Ht] from (hd 2 rfl)), (show aa.eval (.tmp 28) = .agg #[.int .i64 m.x, .int .i64 m.y, .int .i64 m.t, .bool m.f] from (hd 3 rfl)), (show aa.eval (.tmp 29) = .agg #[.int .i64 Wd, .int .i64 Ht, .slice (some bd) xs.length c] from (hd 4 rfl))]; exact got_fs hb.size (apply_got Wd Ht m.x m.y m.t m.f bd c xs _ (HRI.out.to (bel_then HB.out hb)) HAL.out.okm HVL.out))
        | 6, _, _ => exact op_row1 rfl rfl (hd 5 rfl) _ hb.size
        | qi + 7, h, _ => omega
      intro vs X3 hb hv hal hne
      have HBW := HB
      replace HB := Hd.mk (bel_then HB.out hb)
      replace HE := Hd.mk (HE.out.to hb)
      replace HM := Hd.mk (HM.out.to hb)
      have HOL := Hd.mk HO.out.lt
      replace HO := Hd.mk (HO.out.to hb)
      have e25 : vs 25 = u6 := hv 0 (by decide) rfl
      obtain ⟨gR, AR, kR, e31, lR, bR, cR⟩ : (isR1 X2.heap.size Wd Ht (apM Wd Ht m xs)).p (vs 31) X3 := hv 6 (by decide) rfl
      have HR1 := Hd.mk bR
      have HRC := Hd.mk cR
      have HRL := Hd.mk (Nat.le_trans HBW.out.size lR)
      clear lR bR cR
      simp only [PA, e25, e31]
      clear hv hal hne hb HBW e25 e31 HOL
      have HXS := Nat.le_trans HB.out.size (Nat.le_refl _)
      obtain ⟨i0, hi0, hz0, hz1, hz2⟩ := info_parts Try.info_stamp
      have hg0 := (HE.out.get 0 rfl).lt
      refine wpList_append_own _ rfl (.tmp 25) (.tmp 31) 72 rfl (w.heap.size + 1) 27 i0 (.agg #[.int .i64 0, .int .i64 0, .slice none 0 0]) 3 40 Try.underlying72 hi0 hz0 hz1 hz2 rfl (by decide) u6 ts.length (ts.flatMap (encT Wd Ht)) rfl HO.out ⟨gR, 0, none⟩ 1 1 [.int .i64 Wd, .int .i64 Ht, .slice AR (apM Wd Ht m xs).length kR] rfl rfl ?c1 ?c2 ?c3 ?c4 ?c5 ?_
      case c1 =>
        intro z u hz
        rw [addr_zero, HR1.out.cell]
        exact hz
      case c2 =>
        intro u hu
        simp at hu
        rcases hu with rfl | rfl | rfl <;> rfl
      case c3 => unfold maxLen; omega
      case c4 => omega
      case c5 => omega
      intro v1 w1 hown1 hg1 _
      have HB1 := HB.out.grown hg1 (by omega) (fun z hz => Nat.le_trans (Nat.le_succ _) (HO.out.lt z hz).1)
      have HE1 := (Env.grownBy_ HE.out hg1 (fun e he hz => by
        have h1 := HO.out.lt e.g hz.symm
        rcases List.mem_cons.1 he with rfl | he
        · exact absurd h1.1 (Nat.not_succ_le_self _)
        rw [List.mem_singleton.1 he] at hz
        exact absurd (HOG8.out _ hz.symm) (by simp)))
      have HM0 : OkT X3 (ts ++ [⟨AR, kR, apM Wd Ht m xs⟩]) := by
        intro s hs
        rcases List.mem_append.1 hs with h | h
        · exact HM.out s h
        rw [List.mem_singleton.1 h]
        exact ⟨HRC.out, by show (apM Wd Ht m xs).length ≤ _; rw [apM_length]; omega⟩
      have HM1 := OkT.grown_ HM0 hg1 HO.out.blk
      clear HM0
      have HO1 : OwnT (w.heap.size + 1) w1 v1 Wd Ht (ts ++ [⟨AR, kR, apM Wd Ht m xs⟩]) := by
        unfold OwnT
        rw [List.flatMap_append, List.length_append]
        exact hown1
      have HMP1 : (ts ++ [⟨AR, kR, apM Wd Ht m xs⟩] : List Sl).map Sl.xs = (ms.take (j + 1)).map (fun m => apM Wd Ht m xs) := by
        rw [List.map_append, HMP.out, List.take_add_one, HMJ.out, List.map_append]
        rfl
      replace HB := Hd.mk HB1
      replace HO := Hd.mk HO1
      replace HE := Hd.mk HE1
      replace HM := Hd.mk HM1
      clear HB1 HO1 HE1 HM1 hown1 hg1
      go_wp2_with fail
      go_roundw
      case rel => exact ⟨j + 1, _, by omega, by go_num, HMP1, HM.out, HO.out, Env.front (L := [⟨w.heap.size, 27, [.int .i64 Wd, .int .i64 Ht, .slice (some bd) xs.length c]⟩]) HE.out, HB.out⟩
      case measure => simp [intOf]; omega
    have e1 : j = ms.length := by omega
    have HMP1 : ts.map Sl.xs = ms.map (fun m => apM Wd Ht m xs) := by
      rw [HMP.out, e1, List.take_length]
    have hne : ts ≠ [] := fun e => by rw [e] at htl; have := HNZ.out; simp at htl; omega
    obtain ⟨g, cap, rest, e6, hlo, hbk, hlc, hcm⟩ := HO.out.row hne
    have hcm2 : cap ≤ 9223372036854775807 := hcm
    clear hcm
    have hso := sortT_calls Wd Ht g cap ts rest wr hbk HM.out (by omega)
    have HCP := Hd.mk (fun (ts' : List Sl) (w1 : World) (h1 : Blk w1 g 27 (ts'.flatMap (encT Wd Ht) ++ rest)) (h2 : OkT w1 ts') (h3 : ts'.length = ts.length) => (show Calls Try.prog 78 #[.slice (some ⟨g, 0, none⟩) ts.length cap, _] w1 _ from by rw [← h3]; exact Compact_calls Wd Ht g cap ts' rest w1 h1 h2 (by omega) (by omega) hcm2))
    have HBK := Hd.mk hbk
    have HLO := Hd.mk hlo
    clear hbk hlo htl e1 hlc
    subst e6
    go_wp2_with (first | (go_at_call 77; refine hso.mono ?_; rintro e1 w1 ⟨rfl, ts1, hp1, hs1, hb1, hg1⟩) | (go_at_call 78; refine (HCP.out ts1 _ hb1 (OkT.by_ (fun s hs => HM.out s (hp1.mem_iff.1 hs)) hg1 HBK.out (by decide)) hp1.length_eq).mono ?_; rintro e2 w2 ⟨rest2, rfl, hb2, hg2⟩))
    refine bodyPost_ret (v := .tuple #[.slice (some ⟨g, 0, none⟩) (ddN ts1 ts1.length).length cap, .int .i64 0]) (by simp [results, Try.results44, go_sem]) rfl ?_
    have HB2 := (HB.out.grown hg1 (by have := HB.out.size; omega) (fun z hz => by injection hz with hz; have := HLO.out; omega)).grown hg2 (by have := HB.out.size; have := hg1.size; omega) (fun z hz => by injection hz with hz; have := HLO.out; omega)
    have HOK1 : OkT w1 ts1 := OkT.by_ (fun s hs => HM.out s (hp1.mem_iff.1 hs)) hg1 HBK.out (by decide)
    have HOK2 : OkT w2 (ddN ts1 ts1.length) := OkT.by_ (fun s hs => HOK1 s (ddN_mem (Nat.le_refl _) s hs)) hg2 hb1 (by decide)
    exact ⟨_, rfl, HB2, _, _, rfl, ⟨g, cap, rest2, ddN ts1 ts1.length, rfl, orb_of HMP1 hp1 hs1 hne, Nat.le_trans (Nat.le_succ _) HLO.out, hb2, HOK2⟩, rfl⟩
end Go.Proofs.Ytddbmckbankmeaa
set_option linter.unusedVariables false
set_option linter.unusedSimpArgs false
namespace Go.Proofs.Ytddbmckbankmeaa
open Go.RowKit
def leastL (W H : Int) (xs : List Int) (ms : List Mv) : List Int := (orbL W H xs ms).getD 0 []
theorem OkT.one {w : World} {s : Sl} (h : s.ok w) : OkT w [s] := fun z hz => by rw [List.mem_singleton.1 hz]; exact h
theorem ts_head {W H : Int} {xs : List Int} {ms : List Mv} {ts : List Sl} {s : Sl} (h : ts.map Sl.xs = orbL W H xs ms) (hs : ts[0]? = some s) : leastL W H xs ms = s.xs := by
  unfold leastL
  rw [← h]
  simp [List.getD_eq_getElem?_getD, hs]
theorem orb_mem {W H : Int} {xs : List Int} {ms : List Mv} {z : List Int} : z ∈ orbL W H xs ms ↔ ∃ m ∈ ms, apM W H m xs = z := by
  obtain ⟨_, k2⟩ := fold_ins (ms.map fun m => apM W H m xs) [] List.Pairwise.nil
  unfold orbL
  rw [k2, List.mem_map]
  simp
theorem orb_rises (W H : Int) (xs : List Int) (ms : List Mv) : (orbL W H xs ms).Pairwise (fun a b => cmpL a b < 0) := (fold_ins _ [] List.Pairwise.nil).1
theorem ts_some {W H : Int} {xs : List Int} {ms : List Mv} {ts : List Sl} (h : ts.map Sl.xs = orbL W H xs ms) (hm : 0 < ms.length) : ∃ s, ts[0]? = some s := by
  cases ts with
  | nil =>
    have h2 : apM W H ms[0] xs ∈ orbL W H xs ms := orb_mem.2 ⟨_, List.getElem_mem _, rfl⟩
    rw [← h] at h2
    cases h2
  | cons a l => exact ⟨a, rfl⟩
theorem got_ts {f lo lo' : Nat} {vs : Array Value} {w : World} {W H : Int} {xss : List (List Int)} {q : SP} (h : lo ≤ lo') (hc : Calls Try.prog f vs w (Got w (isP (isTs lo' W H xss) q).p)) : Calls Try.prog f vs w (Got w (isP (isTs lo W H xss) q).p) :=
  hc.mono fun e w' ⟨v, h1, h2, x, y, h3, ⟨g, k, rest, ts, h4, h5, h6, h7⟩, h8⟩ => ⟨v, h1, h2, x, y, h3, ⟨g, k, rest, ts, h4, h5, Nat.le_trans h h6, h7⟩, h8⟩
end Go.Proofs.Ytddbmckbankmeaa
set_option linter.unusedVariables false
set_option linter.unusedSimpArgs false
namespace Go.Proofs.Ytddbmckbankmeaa
section
variable {α β : Type}
theorem len_sub (D : DecidableEq α) : ∀ {l m : List α}, l.Nodup → (∀ x ∈ l, x ∈ m) → l.length ≤ m.length
  | [], m, _, _ => Nat.zero_le _
  | x :: l, m, hn, hs => by
    rw [List.nodup_cons] at hn
    have hx : x ∈ m := hs x (by simp)
    have h := len_sub D (l := l) (m := m.erase x) hn.2 (fun y hy => (List.mem_erase_of_ne (fun e => hn.1 (by rw [← e]; exact hy))).2 (hs y (by simp [hy])))
    rw [List.length_erase_of_mem hx] at h
    have := List.length_pos_of_mem hx
    rw [List.length_cons]
    omega
theorem onto_of {l m : List α} (hn : l.Nodup) (hs : ∀ x ∈ l, x ∈ m) (hl : m.length ≤ l.length) : ∀ y ∈ m, y ∈ l := fun y hy => by
  refine Classical.byContradiction fun hc => ?_
  have := len_sub (fun a b => Classical.propDecidable _) (l := y :: l) (m := m) (List.nodup_cons.2 ⟨hc, hn⟩) (fun x hx => (List.mem_cons.1 hx).elim (fun e => by rw [e]; exact hy) (hs x))
  rw [List.length_cons] at this
  omega
theorem nodup_map {f : α → β} : ∀ {l : List α}, l.Nodup → (∀ x ∈ l, ∀ y ∈ l, f x = f y → x = y) → (l.map f).Nodup
  | [], _, _ => by simp
  | x :: l, hn, hi => by
    rw [List.nodup_cons] at hn
    rw [List.map_cons, List.nodup_cons]
    refine ⟨fun h => ?_, nodup_map hn.2 (fun a ha b hb => hi a (by simp [ha]) b (by simp [hb]))⟩
    obtain ⟨y, hy, e⟩ := List.mem_map.1 h
    have := hi y (by simp [hy]) x (by simp) e
    exact hn.1 (by rw [← this]; exact hy)
theorem count_one (D : DecidableEq β) (a : β) : ∀ {Z : List β}, Z.Nodup → a ∈ Z → (Z.map fun z => if a = z then 1 else 0).sum = 1
  | [], _, h => by cases h
  | z :: Z, hn, h => by
    rw [List.nodup_cons] at hn
    rw [List.map_cons, List.sum_cons]
    by_cases e : a = z
    · subst e
      have hz : (Z.map fun z => if a = z then 1 else 0).sum = 0 := by
        have : ∀ L : List β, a ∉ L → (L.map fun z => if a = z then 1 else 0).sum = 0 := by
          intro L
          induction L with
          | nil => intro _; rfl
          | cons y L ih =>
            intro hL
            rw [List.mem_cons, not_or] at hL
            rw [List.map_cons, List.sum_cons, if_neg hL.1, ih hL.2]
        exact this Z hn.1
      rw [if_pos rfl, hz]
    rw [if_neg e, count_one D a hn.2 ((List.mem_cons.1 h).resolve_left e)]
theorem sum_add (f g : β → Nat) (Z : List β) : (Z.map fun z => f z + g z).sum = (Z.map f).sum + (Z.map g).sum := by
  induction Z with
  | nil => rfl
  | cons z Z ih => rw [List.map_cons, List.map_cons, List.map_cons, List.sum_cons, List.sum_cons, List.sum_cons, ih]; omega
theorem sum_fibers (D : DecidableEq β) (f : α → β) {Z : List β} (hn : Z.Nodup) : ∀ (l : List α), (∀ x ∈ l, f x ∈ Z) → (Z.map fun z => (l.filter fun x => decide (f x = z)).length).sum = l.length
  | [], _ => by
    have : ∀ L : List β, (L.map fun _ => 0).sum = 0 := fun L => by induction L with
      | nil => rfl
      | cons y L ih => rw [List.map_cons, List.sum_cons, ih]
    simpa using this Z
  | x :: l, h => by
    have e : (Z.map fun z => ((x :: l).filter fun x => decide (f x = z)).length) = Z.map fun z => (if f x = z then 1 else 0) + (l.filter fun x => decide (f x = z)).length := by
      refine List.map_congr_left fun z _ => ?_
      rw [List.filter_cons]
      by_cases e : f x = z
      · rw [if_pos (by simpa using e), if_pos e, List.length_cons]; omega
      rw [if_neg (by simpa using e), if_neg e]; omega
    rw [e, sum_add, count_one D (f x) hn (h x (by simp)), sum_fibers D f hn l (fun y hy => h y (by simp [hy])), List.length_cons]
    omega
end
section
variable {W H : Int} {ms : List Mv} {m n : Mv} {xs : List Int}
theorem zero_aft (h : Al W H n) : aftM W H ⟨0, 0, 0, false⟩ n = n := by
  have hx := h.x
  have hy := h.y
  have ht := h.t
  obtain ⟨x, y, t, f⟩ := n
  simp only at hx hy ht
  unfold aftM act
  simp [trn, Int.emod_eq_of_lt hx.1 hx.2, Int.emod_eq_of_lt hy.1 hy.2, Int.emod_eq_of_lt ht.1 ht.2]
theorem aft_zero (h : Al W H m) : aftM W H m ⟨0, 0, 0, false⟩ = m := by
  have hx := h.x
  have hy := h.y
  have ht := h.t
  obtain ⟨x, y, t, f⟩ := m
  simp only at hx hy ht
  unfold aftM act
  simp only [trn_zero, Int.zero_add, Int.emod_eq_of_lt hx.1 hx.2, Int.emod_eq_of_lt hy.1 hy.2]
  cases f
  · simp [Int.emod_eq_of_lt ht.1 ht.2]
  simp; omega
structure Gp (W H : Int) (ms : List Mv) : Prop where
  al : ∀ m ∈ ms, Al W H m
  nd : ms.Nodup
  one : (⟨0, 0, 0, false⟩ : Mv) ∈ ms
  mul : ∀ m ∈ ms, ∀ n ∈ ms, aftM W H m n ∈ ms
theorem gp_of (hs : sizeB W H = true) (h : gB W H ms = true) : Gp W H ms := by
  obtain ⟨Wn, Hn, rfl, rfl, hs'⟩ := size_nat hs
  obtain ⟨h1, h2, h3, h4⟩ := (gB_iff hs' ms).1 h
  refine ⟨fun m hm => ?_, h2.imp (fun {a b} h e => by rw [e] at h; exact absurd h (Int.lt_irrefl _)), memB_iff.1 h3, fun m hm n hn => ?_⟩
  · obtain ⟨i, hi, rfl⟩ := mem_nthM.1 hm
    exact h1 i hi
  obtain ⟨i, hi, rfl⟩ := mem_nthM.1 hm
  obtain ⟨j, hj, rfl⟩ := mem_nthM.1 hn
  exact memB_iff.1 (h4 i j hi hj)
theorem aft_inj (h : Al W H m) {a b : Mv} (ha : Al W H a) (hb : Al W H b) (e : aftM W H m a = aftM W H m b) : a = b := by
  have h1 := congrArg (aftM W H (invM W H m)) e
  rw [← aft_assoc (inv_al h) h ha, ← aft_assoc (inv_al h) h hb, inv_one h, zero_aft ha, zero_aft hb] at h1
  exact h1
theorem Gp.inv (g : Gp W H ms) (hm : m ∈ ms) : invM W H m ∈ ms := by
  have hA := g.al m hm
  have h1 := onto_of (nodup_map g.nd (fun a ha b hb e => aft_inj hA (g.al a ha) (g.al b hb) e)) (fun x hx => by
    obtain ⟨y, hy, rfl⟩ := List.mem_map.1 hx
    exact g.mul m hm y hy) (by rw [List.length_map]; exact Nat.le_refl _) _ g.one
  obtain ⟨x, hx, e⟩ := List.mem_map.1 h1
  have h2 := congrArg (aftM W H (invM W H m)) e
  rw [← aft_assoc (inv_al hA) hA (g.al x hx), inv_one hA, zero_aft (g.al x hx), aft_zero (inv_al hA)] at h2
  rw [← h2]
  exact hx
theorem apM_zero (hW : 1 ≤ W) (hH : 1 ≤ H) (hl : (xs.length : Int) = W * H) (h : Al W H ⟨0, 0, 0, false⟩) : apM W H ⟨0, 0, 0, false⟩ xs = xs := by
  refine List.ext_getElem? fun i => ?_
  by_cases hi : i < xs.length
  · have h1 := apM_at (xs := xs) h hl (j := (i : Int)) ⟨by omega, by omega⟩
    rw [cell_zero hW hH ⟨by omega, by omega⟩] at h1
    simp only [Int.toNat_natCast, List.getD_eq_getElem?_getD] at h1
    have hi2 : i < (apM W H ⟨0, 0, 0, false⟩ xs).length := by rw [apM_length]; exact hi
    rw [List.getElem?_eq_getElem hi2, List.getElem?_eq_getElem hi] at h1 ⊢
    rw [show (apM W H ⟨0, 0, 0, false⟩ xs)[i] = xs[i] from h1]
  rw [List.getElem?_eq_none (by rw [apM_length]; omega), List.getElem?_eq_none (by omega)]
theorem ap_back (h : Al W H m) (hW : 1 ≤ W) (hH : 1 ≤ H) (hl : (xs.length : Int) = W * H) : apM W H (invM W H m) (apM W H m xs) = xs := by
  have hz : Al W H ⟨0, 0, 0, false⟩ := by rw [← inv_one h]; exact aft_al (inv_al h) h
  rw [apM_comp (inv_al h) h hl, inv_one h, apM_zero hW hH hl hz]
theorem orb_orb (g : Gp W H ms) (hv : validB W H xs = true) {z : List Int} (hz : z ∈ orbL W H xs ms) : orbL W H z ms = orbL W H xs ms := by
  have hl := valid_len hv
  have hs := sizeB_bounds (valid_size hv)
  obtain ⟨m0, hm0, rfl⟩ := orb_mem.1 hz
  have hA0 := g.al m0 hm0
  have hl2 : ((apM W H m0 xs).length : Int) = W * H := by rw [apM_length]; exact hl
  refine rises_eq (orb_rises _ _ _ _) (orb_rises _ _ _ _) fun y => ?_
  rw [orb_mem, orb_mem]
  constructor
  · rintro ⟨m, hm, rfl⟩
    exact ⟨aftM W H m m0, g.mul m hm m0 hm0, (apM_comp (g.al m hm) hA0 hl).symm⟩
  rintro ⟨m, hm, rfl⟩
  refine ⟨aftM W H m (invM W H m0), g.mul m hm _ (g.inv hm0), ?_⟩
  rw [← apM_comp (g.al m hm) (inv_al hA0) hl2, ap_back hA0 hs.1.1 hs.2.1 hl]
theorem orb_least (g : Gp W H ms) (hv : validB W H xs = true) {z : List Int} (hz : z ∈ orbL W H xs ms) : leastL W H z ms = leastL W H xs ms := by
  unfold leastL
  rw [orb_orb g hv hz]
end
end Go.Proofs.Ytddbmckbankmeaa
set_option linter.unusedVariables false
set_option linter.unusedSimpArgs false
namespace Go.Proofs.Ytddbmckbankmeaa
open Go.RowKit
section
variable {w : World} {A B : Option Addr} {k c lo lo' n : Nat} {ms : List Mv} {Wd Ht : Int} {xs : List Int} {f : Nat} {vs : Array Value} {q : SP}
theorem got_ss (h : lo ≤ lo') (hc : Calls Try.prog f vs w (Got w (isSs lo' ms).p)) : Calls Try.prog f vs w (Got w (isSs lo ms).p) := hc.mono fun e w' ⟨v, h1, h2, h3⟩ => ⟨v, h1, h2, ownS_low h h3⟩
theorem moves_all (hrm : RdM w A ms) (hln : ms.length ≤ 521) : Calls Try.prog 30 #[.slice A ms.length k] w (Got w (isSs w.heap.size ms).p) := by
  have h := moves_got A k ms w hrm (by omega)
  rwa [List.take_of_length_le hln] at h
theorem rd_ok {W H : Int} {s : Sl} {ys : List Int} (h : s.ok w) (e : s.xs = ys) : (rdS W H ys).p (.agg #[.int .i64 W, .int .i64 H, .slice s.A s.xs.length s.k]) w := by
  subst e
  exact ⟨s.A, s.k, rfl, h.1.1⟩
end
theorem gp_few {W H : Int} {ms : List Mv} (hs : sizeB W H = true) (h : gB W H ms = true) : ms.length ≤ 512 := by
  obtain ⟨Wn, Hn, rfl, rfl, hs'⟩ := size_nat hs
  have hb := sizeB_bounds hs'
  rw [gB_list hs' h]
  exact Nat.le_trans (List.length_filter_le _ _) (moves_len (by omega) (by omega))
theorem gp_take {W H : Int} {ms : List Mv} (hs : sizeB W H = true) (h : gB W H (ms.take 521) = true) : ms.take 521 = ms := by
  have h1 := gp_few hs h
  rw [List.length_take] at h1
  exact List.take_of_length_le (by omega)
theorem least_mem {W H : Int} {xs : List Int} {ms : List Mv} (h : 0 < ms.length) : leastL W H xs ms ∈ orbL W H xs ms := by
  have h2 : apM W H ms[0] xs ∈ orbL W H xs ms := orb_mem.2 ⟨_, List.getElem_mem _, rfl⟩
  unfold leastL
  cases ho : orbL W H xs ms with
  | nil => rw [ho] at h2; cases h2
  | cons a l => simp
end Go.Proofs.Ytddbmckbankmeaa
set_option linter.unusedVariables false
set_option linter.unusedSimpArgs false
set_option linter.unnecessarySimpa false
namespace Go.Proofs.Ytddbmckbankmeaa
def dgs (K : Nat) : Nat → Nat → List Int
  | 0, _ => []
  | N + 1, n => dgs K N (n / K) ++ [((n % K : Nat) : Int)]
def Col (K N : Nat) (xs : List Int) : Prop := xs.length = N ∧ ∀ x ∈ xs, 0 ≤ x ∧ x < K
def valD (K : Nat) (xs : List Int) : Nat := xs.foldl (fun a x => a * K + x.toNat) 0
theorem valD_snoc (K : Nat) (xs : List Int) (x : Int) : valD K (xs ++ [x]) = valD K xs * K + x.toNat := by unfold valD; rw [List.foldl_append]; rfl
theorem dgs_len (K : Nat) : ∀ N n, (dgs K N n).length = N
  | 0, _ => rfl
  | N + 1, n => by rw [dgs, List.length_append, dgs_len K N]; rfl
theorem dgs_col {K : Nat} (hK : 0 < K) : ∀ N n, Col K N (dgs K N n)
  | 0, n => ⟨rfl, fun x hx => by cases hx⟩
  | N + 1, n => by
    refine ⟨dgs_len K _ _, fun x hx => ?_⟩
    rw [dgs] at hx
    rcases List.mem_append.1 hx with hx | hx
    · exact (dgs_col hK N (n / K)).2 x hx
    rw [List.mem_singleton.1 hx]
    have := Nat.mod_lt n hK
    omega
theorem val_dgs {K : Nat} (hK : 0 < K) : ∀ N n, n < K ^ N → valD K (dgs K N n) = n
  | 0, n, h => by simp at h; subst h; rfl
  | N + 1, n, h => by
    rw [dgs, valD_snoc, val_dgs hK N (n / K) (Nat.div_lt_of_lt_mul (by rw [Nat.pow_succ, Nat.mul_comm] at h; exact h)), Int.toNat_natCast]
    rw [Nat.mul_comm]
    exact Nat.div_add_mod n K
theorem dgs_val {K : Nat} (hK : 0 < K) : ∀ {N : Nat} {xs : List Int}, Col K N xs → valD K xs < K ^ N ∧ dgs K N (valD K xs) = xs
  | 0, xs, h => by
    obtain rfl : xs = [] := List.eq_nil_of_length_eq_zero h.1
    exact ⟨by simp [valD], rfl⟩
  | N + 1, xs, h => by
    rcases List.eq_nil_or_concat xs with rfl | ⟨ys, x, rfl⟩
    · have := h.1
      simp at this
    rw [List.concat_eq_append] at h ⊢
    have hx := h.2 x (by simp)
    obtain ⟨h1, h2⟩ := dgs_val hK (N := N) (xs := ys) ⟨by have := h.1; simpa using this, fun y hy => h.2 y (by simp [hy])⟩
    have hlt : x.toNat < K := by omega
    rw [valD_snoc]
    refine ⟨?_, ?_⟩
    · rw [Nat.pow_succ]
      have : (valD K ys + 1) * K ≤ K ^ N * K := Nat.mul_le_mul_right _ h1
      rw [Nat.add_mul, Nat.one_mul] at this
      omega
    rw [dgs, Nat.add_comm (valD K ys * K), Nat.add_mul_div_right _ _ hK, Nat.div_eq_of_lt hlt, Nat.zero_add, h2, Nat.add_mul_mod_self_right, Nat.mod_eq_of_lt hlt]
    congr 2
    omega
def allC (K N : Nat) : List (List Int) := (List.range (K ^ N)).map (dgs K N)
theorem mem_allC {K N : Nat} (hK : 0 < K) {xs : List Int} : xs ∈ allC K N ↔ Col K N xs := by
  unfold allC
  rw [List.mem_map]
  constructor
  · rintro ⟨n, _, rfl⟩
    exact dgs_col hK N n
  intro h
  obtain ⟨h1, h2⟩ := dgs_val hK h
  exact ⟨_, List.mem_range.2 h1, h2⟩
theorem allC_nodup {K N : Nat} (hK : 0 < K) : (allC K N).Nodup := nodup_map List.nodup_range (fun a ha b hb e => by
  rw [← val_dgs hK N a (List.mem_range.1 ha), ← val_dgs hK N b (List.mem_range.1 hb), e])
section
variable {W H : Int} {ms : List Mv} {m : Mv} {xs z : List Int} {K N : Nat}
def repB (W H : Int) (ms : List Mv) (xs : List Int) : Bool := !(ms.any fun m => decide (cmpL (apM W H m xs) xs < 0))
def listL (W H : Int) (ms : List Mv) (K N : Nat) : List (List Int) := (allC K N).filter (repB W H ms)
theorem ap_mem (h : Al W H m) (hl : (xs.length : Int) = W * H) : ∀ x ∈ apM W H m xs, x ∈ xs := fun x hx => by
  obtain ⟨i, hi, e⟩ := List.mem_iff_getElem.1 hx
  rw [apM_length] at hi
  have hi2 : (0 : Int) ≤ i ∧ (i : Int) < W * H := ⟨by omega, by omega⟩
  have hj := cell_lt (inv_al h) (i : Int)
  have h1 := apM_at (xs := xs) h hl hj
  rw [cell_inv h hi2, Int.toNat_natCast] at h1
  have hi3 : i < (apM W H m xs).length := by rw [apM_length]; exact hi
  have hj2 : (cellM W H (invM W H m) (i : Int)).toNat < xs.length := by omega
  rw [List.getD_eq_getElem?_getD, List.getElem?_eq_getElem hi3, List.getD_eq_getElem?_getD, List.getElem?_eq_getElem hj2] at h1
  rw [← e, show (apM W H m xs)[i] = xs[(cellM W H (invM W H m) (i : Int)).toNat] from h1]
  exact List.getElem_mem _
theorem ap_col (h : Al W H m) (hN : (N : Int) = W * H) (hc : Col K N xs) : Col K N (apM W H m xs) :=
  ⟨by rw [apM_length]; exact hc.1, fun x hx => hc.2 x (ap_mem h (by rw [hc.1]; exact hN) x hx)⟩
theorem col_valid (hs : sizeB W H = true) (hN : (N : Int) = W * H) (hK : K ≤ 8) (hc : Col K N xs) : validB W H xs = true := by
  have hcl := hc.1
  unfold validB
  rw [hs]
  simp only [Bool.true_and, Bool.and_eq_true, decide_eq_true_eq, Bool.not_eq_true']
  refine ⟨by omega, ?_⟩
  rw [List.any_eq_false]
  intro x hx
  have := hc.2 x hx
  unfold badc
  simp
  omega
theorem orb_self (g : Gp W H ms) (hv : validB W H xs = true) : xs ∈ orbL W H xs ms := by
  have hs := sizeB_bounds (valid_size hv)
  exact orb_mem.2 ⟨_, g.one, apM_zero hs.1.1 hs.2.1 (valid_len hv) (g.al _ g.one)⟩
theorem head_le (hz : z ∈ orbL W H xs ms) : cmpL (leastL W H xs ms) z ≤ 0 := by
  have hr := orb_rises W H xs ms
  unfold leastL
  cases ho : orbL W H xs ms with
  | nil => rw [ho] at hz; cases hz
  | cons a l =>
    rw [ho] at hz hr
    rw [List.pairwise_cons] at hr
    show cmpL a z ≤ 0
    rcases List.mem_cons.1 hz with rfl | hz
    · rw [cmpL_refl]; exact Int.le_refl _
    exact Int.le_of_lt (hr.1 z hz)
theorem rep_iff (g : Gp W H ms) (hv : validB W H xs = true) : repB W H ms xs = true ↔ leastL W H xs ms = xs := by
  have hnz : 0 < ms.length := List.length_pos_of_mem g.one
  unfold repB
  rw [Bool.not_eq_true', List.any_eq_false]
  constructor
  · intro h
    obtain ⟨m, hm, e⟩ := orb_mem.1 (least_mem (W := W) (H := H) (xs := xs) hnz)
    have h1 := h m hm
    rw [e] at h1
    have h2 := head_le (orb_self g hv)
    simp at h1
    exact cmpL_zero (by omega)
  intro h m hm
  have h1 := head_le (W := W) (H := H) (xs := xs) (ms := ms) (orb_mem.2 ⟨m, hm, rfl⟩)
  rw [h] at h1
  have h2 := cmpL_neg xs (apM W H m xs)
  simp
  omega
theorem orb_col (g : Gp W H ms) (hN : (N : Int) = W * H) (hc : Col K N xs) (hz : z ∈ orbL W H xs ms) : Col K N z := by
  obtain ⟨m, hm, rfl⟩ := orb_mem.1 hz
  exact ap_col (g.al m hm) hN hc
theorem mem_listL (hK : 0 < K) : z ∈ listL W H ms K N ↔ Col K N z ∧ repB W H ms z = true := by
  unfold listL
  rw [List.mem_filter, mem_allC hK]
theorem least_list (g : Gp W H ms) (hs : sizeB W H = true) (hN : (N : Int) = W * H) (hK : 0 < K) (hK8 : K ≤ 8) (hc : Col K N xs) : leastL W H xs ms ∈ listL W H ms K N := by
  have hnz : 0 < ms.length := List.length_pos_of_mem g.one
  have hv := col_valid hs hN hK8 hc
  have hm := least_mem (W := W) (H := H) (xs := xs) hnz
  have hc2 := orb_col g hN hc hm
  exact (mem_listL hK).2 ⟨hc2, (rep_iff g (col_valid hs hN hK8 hc2)).2 (orb_least g hv hm)⟩
theorem listL_ne (g : Gp W H ms) (hs : sizeB W H = true) (hN : (N : Int) = W * H) (hK : 0 < K) (hK8 : K ≤ 8) : listL W H ms K N ≠ [] := fun e => by
  have := least_list g hs hN hK hK8 (dgs_col hK N 0)
  rw [e] at this
  cases this
theorem listL_nodup (W H : Int) (ms : List Mv) (N : Nat) (hK : 0 < K) : (listL W H ms K N).Nodup := (allC_nodup hK).filter _
theorem list_sum (g : Gp W H ms) (hs : sizeB W H = true) (hN : (N : Int) = W * H) (hK : 0 < K) (hK8 : K ≤ 8) : ((listL W H ms K N).map fun z => (orbL W H z ms).length).sum = K ^ N := by
  have D : DecidableEq (List Int) := inferInstance
  have h1 := sum_fibers (inferInstanceAs (DecidableEq (List Int))) (fun x => leastL W H x ms) (listL_nodup W H ms N hK) (allC K N) (fun x hx => least_list g hs hN hK hK8 ((mem_allC hK).1 hx))
  have h2 : (allC K N).length = K ^ N := by unfold allC; rw [List.length_map, List.length_range]
  rw [← h2, ← h1]
  congr 1
  refine List.map_congr_left fun z hz => ?_
  obtain ⟨hcz, hrz⟩ := (mem_listL hK).1 hz
  have hvz := col_valid hs hN hK8 hcz
  have hlz := (rep_iff g hvz).1 hrz
  have hno : (orbL W H z ms).Nodup := (orb_rises W H z ms).imp (fun {a b} h e => by rw [e, cmpL_refl] at h; omega)
  refine Nat.le_antisymm (len_sub D hno fun x hx => ?_) (len_sub D ((allC_nodup hK).filter _) fun x hx => ?_)
  · have hcx := orb_col g hN hcz hx
    refine List.mem_filter.2 ⟨(mem_allC hK).2 hcx, ?_⟩
    rw [decide_eq_true_eq, orb_least g hvz hx, hlz]
  obtain ⟨h3, h4⟩ := List.mem_filter.1 hx
  rw [decide_eq_true_eq] at h4
  have hcx := (mem_allC hK).1 h3
  have hvx := col_valid hs hN hK8 hcx
  have hz2 : z ∈ orbL W H x ms := by rw [← h4]; exact least_mem (List.length_pos_of_mem g.one)
  rw [orb_orb g hvx hz2]
  exact orb_self g hvx
end
end Go.Proofs.Ytddbmckbankmeaa
