/- The classes of cells: the program's. -/
import Derived.Test.YtddbmckbankmeaaUg
set_option linter.unusedVariables false
set_option linter.unusedSimpArgs false
namespace Go.Proofs.Ytddbmckbankmeaa
open Go.RowKit
/-- The least cell of an orbit, move by move. -/
def leastK (W H : Int) (ms : List Mv) (i : Nat) : Nat → Int
  | 0 => i
  | n + 1 => if cellM W H (nthM ms n) i < leastK W H ms i n then cellM W H (nthM ms n) i else leastK W H ms i n
def cellsK (W H : Int) (ms : List Mv) (n : Nat) : List Int := (List.range n).map fun i => leastK W H ms i ms.length
theorem cellsK_add (W H : Int) (ms : List Mv) (n : Nat) : cellsK W H ms (n + 1) = cellsK W H ms n ++ [leastK W H ms n ms.length] := by
  unfold cellsK
  rw [List.range_succ, List.map_append]
  rfl
theorem cellsK_length (W H : Int) (ms : List Mv) (n : Nat) : (cellsK W H ms n).length = n := by
  unfold cellsK
  rw [List.length_map, List.length_range]
theorem to_m {W H : Int} {m : Mv} (h : Al W H m) (i : Int) (hi : 0 ≤ i ∧ i < 64) (w : World) :
    Calls Try.prog 64 #[.agg #[.int .i64 W, .int .i64 H], .agg #[.int .i64 m.x, .int .i64 m.y, .int .i64 m.t, .bool m.f], .int .i64 i] w (Got w (isV (.int .i64 (cellM W H m i))).p) := to_got W H m.x m.y m.t i m.f h.okm hi w
theorem goes_m {W H : Int} {m : Mv} (h : Al W H m) (i : Int) (hi : 0 ≤ i ∧ i < 64) (w : World) :
    Calls Try.prog 56 #[.int .i64 W, .int .i64 H, .agg #[.int .i64 m.x, .int .i64 m.y, .int .i64 m.t, .bool m.f], .int .i64 i] w (Got w (isV (.int .i64 (cellM W H m i))).p) := goes_got W H m.x m.y m.t i m.f h.okm hi w
/-- A list of ints of the function's own. -/
def OwnI (lo : Nat) (w : World) (v : Value) (xs : List Int) : Prop := w.ownsRow lo 3 1 v xs.length (ints xs)
section
variable {lo g o : Nat} {w w' : World} {v : Value} {xs : List Int} {vs : List Value}
theorem OwnI.to (h : OwnI lo w v xs) (hb : Below w.heap.size w w') : OwnI lo w' v xs := own_to h hb
theorem OwnI.put (h : OwnI lo w v xs) (hlt : ∀ k, v.ownBlock = some k → k < g) : OwnI lo (putL w g o vs) v xs := own_put hlt h
theorem OwnI.lt (h : OwnI lo w v xs) : ∀ k, v.ownBlock = some k → lo ≤ k ∧ k < w.heap.size := World.ownsRow.lt h
theorem OwnI.lower {lo' : Nat} (h : lo ≤ lo') (ho : OwnI lo' w v xs) : OwnI lo w v xs := by
  refine ⟨ho.1, ?_⟩
  rcases ho.2 with hn | ⟨g', cap, cur, rfl, hb, hgg, rest⟩
  · exact .inl hn
  · exact .inr ⟨g', cap, cur, rfl, by omega, hgg, rest⟩
theorem Env.grownBy_ {row : Option Nat} : ∀ {L : List Ent}, Env w L → w.grownBy w' row → (∀ e ∈ L, some e.g ≠ row) → Env w' L
  | [], _, _, _ => trivial
  | e :: L, ⟨h1, h2, h3⟩, hg, hne => ⟨(hg.block e.g h1.lt (hne e (List.mem_cons_self ..))).trans h1, h2, Env.grownBy_ h3 hg (fun e' he => hne e' (List.mem_cons_of_mem _ he))⟩
theorem Env.alloc_ (o : Obj) {L : List Ent} (h : Env w L) : Env (w.alloc o) L := h.to (below_alloc (Below.refl _ _) o)
def isIs (lo : Nat) (xs : List Int) : SP := ⟨fun v w => OwnI lo w v xs, fun v w w' h hb => h.to hb⟩
theorem group_not {W H : Nat} {ms : List Mv} (h : gB W H ms = true) (hs : sizeB W H = true) : ∀ i, i < ms.length → Al W H (nthM ms i) := ((gB_iff hs ms).1 h).1
end

set_option maxRecDepth 100000 in
set_option maxHeartbeats 1000000 in
theorem Cells_ok (Wn Hn : Nat) (A : Option Addr) (k : Nat) (ms : List Mv) (w : World) (hrm : RdM w A ms) (hln : ms.length ≤ 100000) (hs : sizeB Wn Hn = true) (hg : gB Wn Hn ms = true) :
    Calls Try.prog 29 #[.int .i64 (((Wn : Nat) : Int)), .int .i64 (((Hn : Nat) : Int)), .slice A ms.length k] w (Got w (isP (isIs w.heap.size (cellsK Wn Hn ms ((Wn : Int) * (Hn : Int)).toNat)) (isV (.int .i64 0))).p) := by
  have HRM := Hd.mk hrm
  have HS := Hd.mk hs
  have HG := Hd.mk hg
  have HALL := Hd.mk (group_not hg hs)
  have hwh := sizeB_bounds hs
  have hmb := mul_small (a := (Wn : Int)) (b := (Hn : Int)) (by omega) (by omega)
  obtain ⟨N, hN⟩ : ∃ N : Nat, (Wn : Int) * (Hn : Int) = N := ⟨((Wn : Int) * (Hn : Int)).toNat, by omega⟩
  have hN64 : N ≤ 64 := by omega
  have HNN : Hd ((Wn : Int) * (Hn : Int) = (N : Int)) := ⟨hN⟩
  have HTN : Hd (((Wn : Int) * (Hn : Int)).toNat = N) := ⟨by omega⟩
  rw [HTN.out]
  clear hrm hs hg hN hmb
  go_enter Try.func29, Try.ntmps29
  go_upto_region 1 with fail
  have HE : Hd (Env w []) := ⟨trivial⟩
  have HB : Hd (Below w.heap.size w w) := ⟨Below.refl _ _⟩
  refine wp_region_vd 4 [14, 15, 16, 8] [0, 1, 2] [3] 84 [.int .i64 0, .int .i64 0] [isV (.int .i64 (((Wn : Nat) : Int))), isV (.int .i64 (((Hn : Nat) : Int))), isV (.agg #[.int .i64 (((Wn : Nat) : Int)), .int .i64 (((Hn : Nat) : Int))]), SP.any] (by rfl) alloc_Z ?_ ?_
  · intro qi qh qA aa wx hb hs hd
    match qi, qh, qA with
    | 0, _, _ => exact .inl ⟨rfl, op_mv rfl (hs 0 rfl)⟩
    | 1, _, _ => exact .inl ⟨rfl, op_mv rfl (hs 1 rfl)⟩
    | 2, _, _ => exact .inl ⟨rfl, ⟨_, op_buZ rfl (hd 0 rfl) (hd 1 rfl), rfl⟩⟩
    | 3, _, h => cases h
    | qi + 4, h, _ => omega
  · intro vs X1 hb hv hal hne
    have HL0 := Hd.mk (HE.out.lt)
    have HBW := HB
    replace HB := Hd.mk (bel_then HB.out hb)
    replace HE : Hd (Env X1 []) := ⟨HE.out.to hb⟩
    have HLS := HL0
    have e16 : vs 16 = .agg #[.int .i64 (((Wn : Nat) : Int)), .int .i64 (((Hn : Nat) : Int))] := hv 2 (by decide) rfl
    obtain ⟨g8, e8, l8, b8⟩ : ∃ g, vs 8 = .pointer (some ⟨g, 0, none⟩) ∧ _ := hal 3 rfl
    replace HE : Hd (Env X1 [⟨g8, 84, [.int .i64 0, .int .i64 0]⟩]) := ⟨Env.addne (e := ⟨g8, 84, [.int .i64 0, .int .i64 0]⟩) HE.out b8 (fun e' he => Nat.ne_of_lt (Nat.lt_of_lt_of_le (HL0.out e' he) l8))⟩
    have G8 : Hd (w.heap.size ≤ g8) := ⟨Nat.le_trans HBW.out.size l8⟩
    simp only [putAll, List.foldl_cons, List.foldl_nil, Act.put, List.setIfInBounds_toArray, List.set_cons_succ, List.set_cons_zero, List.drop_succ_cons, List.drop_zero, e16, e8]
    generalize vs 14 = s14
    generalize vs 15 = s15
    clear hv hal hne hb HL0 HBW HLS e16 e8 l8 b8
    refine wpList_st rfl rfl rfl rfl rfl (sto_Z (HE.out.get 0 rfl)) ?_
    have HE' : Env (putL X1 g8 0 [.int .i64 (((Wn : Nat) : Int)), .int .i64 (((Hn : Nat) : Int))]) [⟨g8, 84, [.int .i64 (((Wn : Nat) : Int)), .int .i64 (((Hn : Nat) : Int))]⟩] := HE.out.putF 0 rfl rfl
    have HB' := putL_below (show w.heap.size ≤ g8 from G8.out) [.int .i64 (((Wn : Nat) : Int)), .int .i64 (((Hn : Nat) : Int))] _ 0 HB.out
    generalize putL X1 g8 0 [.int .i64 (((Wn : Nat) : Int)), .int .i64 (((Hn : Nat) : Int))] = X2 at *
    replace HE := Hd.mk HE'
    replace HB := Hd.mk HB'
    clear HE' HB'
    go_upto_region 2 with fail
    refine wp_region_vd 9 [17, 18, 19, 20, 21, 22, 23, 24, 25] [2, 3, 5, 7, 8] [] 84 [.int .i64 0, .int .i64 0] [isV (.agg #[.int .i64 (((Wn : Nat) : Int)), .int .i64 (((Hn : Nat) : Int))]), isV (.bool true), isV (.bool false), isV (.bool false), isV (.agg #[.int .i64 (((Wn : Nat) : Int)), .int .i64 (((Hn : Nat) : Int))]), isV (.slice A ms.length k), isV (.bool true), isV (.bool false), isV (.bool false)] (by rfl) alloc_Z ?_ ?_
    · intro qi qh qA aa wx hb hs hd
      match qi, qh, qA with
      | 0, _, _ => exact .inl ⟨rfl, op_ldZ rfl rfl (hs 8 rfl) ((HE.out.to hb).get 0 rfl)⟩
      | 1, _, _ => exact .inl ⟨rfl, wp_b (bool_eq HS.out) (op_call1 rfl rfl Try.call53 (by rw [(show aa.eval (.tmp 17) = .agg #[.int .i64 (((Wn : Nat) : Int)), .int .i64 (((Hn : Nat) : Int))] from (hd 0 rfl))]; exact valid_got Wn Hn _))⟩
      | 2, _, _ => exact .inl ⟨rfl, ⟨_, op_not rfl (hd 1 rfl), rfl⟩⟩
      | 3, _, _ => exact .inl ⟨rfl, op_mv rfl (hd 2 rfl)⟩
      | 4, _, _ => exact .inl ⟨⟨rfl, .inl (hd 3 rfl)⟩, op_ldZ rfl rfl (hs 8 rfl) ((HE.out.to hb).get 0 rfl)⟩
      | 5, _, _ => exact .inl ⟨⟨rfl, .inl (hd 3 rfl)⟩, op_mv rfl (hs 2 rfl)⟩
      | 6, _, _ => exact .inl ⟨⟨rfl, .inl (hd 3 rfl)⟩, wp_b (bool_eq HG.out) (op_call2 rfl rfl Try.call63 (by rw [(show aa.eval (.tmp 21) = .agg #[.int .i64 (((Wn : Nat) : Int)), .int .i64 (((Hn : Nat) : Int))] from (hd 4 rfl)), (show aa.eval (.tmp 22) = .slice A ms.length k from (hd 5 rfl))]; exact group_got Wn Hn A k ms _ (HRM.out.to (bel_then HB.out hb)) (by omega) HS.out))⟩
      | 7, _, _ => exact .inl ⟨⟨rfl, .inl (hd 3 rfl)⟩, ⟨_, op_not rfl (hd 6 rfl), rfl⟩⟩
      | 8, _, _ => exact .inl ⟨rfl, ⟨_, op_pickF rfl (hd 3 rfl) (hd 7 rfl), rfl⟩⟩
      | qi + 9, h, _ => omega
    · intro vs X3 hb hv hal hne
      have HL0 := Hd.mk (HE.out.lt)
      have HBW := HB
      replace HB := Hd.mk (bel_then HB.out hb)
      replace HE : Hd (Env X3 [⟨g8, 84, [.int .i64 (((Wn : Nat) : Int)), .int .i64 (((Hn : Nat) : Int))]⟩]) := ⟨HE.out.to hb⟩
      have HLS := HL0
      have e25 : vs 25 = .bool false := hv 8 (by decide) rfl
      simp only [putAll, List.foldl_cons, List.foldl_nil, Act.put, List.setIfInBounds_toArray, List.set_cons_succ, List.set_cons_zero, List.drop_succ_cons, List.drop_zero, e25]
      generalize vs 17 = s17
      generalize vs 18 = s18
      generalize vs 19 = s19
      generalize vs 20 = s20
      generalize vs 21 = s21
      generalize vs 22 = s22
      generalize vs 23 = s23
      generalize vs 24 = s24
      clear hv hal hne hb HL0 HBW HLS e25
      go_upto_region 4 with fail
      refine wp_region_vd 0 [] [] [] 84 [.int .i64 0, .int .i64 0] [] (by rfl) alloc_Z ?_ ?_
      · intro qi qh qA aa wx hb hs hd
        match qi, qh, qA with
        | qi + 0, h, _ => omega
      · intro vs X4 hb hv hal hne
        have HL0 := Hd.mk (HE.out.lt)
        have HBW := HB
        replace HB := Hd.mk (bel_then HB.out hb)
        replace HE : Hd (Env X4 [⟨g8, 84, [.int .i64 (((Wn : Nat) : Int)), .int .i64 (((Hn : Nat) : Int))]⟩]) := ⟨HE.out.to hb⟩
        have HLS := HL0
        simp only [putAll, List.foldl_cons, List.foldl_nil, Act.put, List.setIfInBounds_toArray, List.set_cons_succ, List.set_cons_zero, List.drop_succ_cons, List.drop_zero]
        clear hv hal hne hb HL0 HBW HLS
        go_upto_region 5 with fail
        refine wp_region_vd 4 [26, 27, 28, 29] [0, 1, 2, 3] [] 84 [.int .i64 0, .int .i64 0] [isV (.int .i64 (((Wn : Nat) : Int))), isV (.int .i64 (((Hn : Nat) : Int))), isV (.int .i64 (((N : Nat) : Int))), isV (.int .i64 0)] (by rfl) alloc_Z ?_ ?_
        · intro qi qh qA aa wx hb hs hd
          match qi, qh, qA with
          | 0, _, _ => exact .inl ⟨rfl, op_mv rfl (hs 0 rfl)⟩
          | 1, _, _ => exact .inl ⟨rfl, op_mv rfl (hs 1 rfl)⟩
          | 2, _, _ => exact .inl ⟨rfl, pure_b (int_eq HNN.out) (⟨_, op_mul (by unfold Fit; rw [HNN.out]; omega) rfl (hd 0 rfl) (hd 1 rfl), rfl⟩)⟩
          | 3, _, _ => exact .inl ⟨rfl, op_mv rfl rfl⟩
          | qi + 4, h, _ => omega
        · intro vs X5 hb hv hal hne
          have HL0 := Hd.mk (HE.out.lt)
          have HBW := HB
          replace HB := Hd.mk (bel_then HB.out hb)
          replace HE : Hd (Env X5 [⟨g8, 84, [.int .i64 (((Wn : Nat) : Int)), .int .i64 (((Hn : Nat) : Int))]⟩]) := ⟨HE.out.to hb⟩
          have HLS := HL0
          have e28 : vs 28 = .int .i64 (((N : Nat) : Int)) := hv 2 (by decide) rfl
          have e29 : vs 29 = .int .i64 0 := hv 3 (by decide) rfl
          simp only [putAll, List.foldl_cons, List.foldl_nil, Act.put, List.setIfInBounds_toArray, List.set_cons_succ, List.set_cons_zero, List.drop_succ_cons, List.drop_zero, e28, e29]
          generalize vs 26 = s26
          generalize vs 27 = s27
          clear hv hal hne hb HL0 HBW HLS e28 e29
          have HO : Hd (OwnI (g8 + 1) X5 (.slice none 0 0) []) := ⟨World.ownsRow_nil _ _ _ _⟩
          go_wp2_with fail
          go_loopw [9, 29] (fun s9 s29 wr => ∃ i : Nat, i ≤ N ∧ s29 = .int .i64 i ∧ Env wr [⟨g8, 84, [.int .i64 (((Wn : Nat) : Int)), .int .i64 (((Hn : Nat) : Int))]⟩] ∧ OwnI (g8 + 1) wr s9 (cellsK Wn Hn ms i) ∧ Below w.heap.size w wr ) (fun _ s29 _ => N - (intOf s29).toNat)
          case atStart => exact ⟨0, Nat.zero_le _, rfl, HE.out, HO.out, HB.out⟩
          case round =>
            obtain ⟨i, hiN, rfl, he, ho, hb⟩ := hrel
            clear HB HE HO
            have HB := Hd.mk hb
            have HO := Hd.mk ho
            have HE : Hd (Env wr [⟨g8, 84, [.int .i64 (((Wn : Nat) : Int)), .int .i64 (((Hn : Nat) : Int))]⟩]) := ⟨he⟩
            clear he ho hb
            by_cases hi : i < N
            · skip
              go_upto_region 7 with fail
              refine wp_region_vd 1 [31] [0] [] 84 [.int .i64 0, .int .i64 0] [isV (.int .i64 (((i : Nat) : Int)))] (by rfl) alloc_Z ?_ ?_
              · intro qi qh qA aa wx hb hs hd
                match qi, qh, qA with
                | 0, _, _ => exact .inl ⟨rfl, op_mv rfl (hs 29 rfl)⟩
                | qi + 1, h, _ => omega
              · intro vs X1 hb hv hal hne
                have HL0 := Hd.mk (HE.out.lt)
                have HBW := HB
                replace HB := Hd.mk (bel_then HB.out hb)
                replace HE : Hd (Env X1 [⟨g8, 84, [.int .i64 (((Wn : Nat) : Int)), .int .i64 (((Hn : Nat) : Int))]⟩]) := ⟨HE.out.to hb⟩
                have HLS := HL0
                have HOL := Hd.mk HO.out.lt
                replace HO := Hd.mk (HO.out.to hb)
                have e31 : vs 31 = .int .i64 (((i : Nat) : Int)) := hv 0 (by decide) rfl
                simp only [putAll, List.foldl_cons, List.foldl_nil, Act.put, List.setIfInBounds_toArray, List.set_cons_succ, List.set_cons_zero, List.drop_succ_cons, List.drop_zero, e31]
                clear hv hal hne hb HL0 HBW HLS e31 HOL
                go_upto_region 8 with fail
                refine wp_region_vd 1 [32] [0] [] 84 [.int .i64 0, .int .i64 0] [isV (.int .i64 (((i : Nat) : Int)))] (by rfl) alloc_Z ?_ ?_
                · intro qi qh qA aa wx hb hs hd
                  match qi, qh, qA with
                  | 0, _, _ => exact .inl ⟨rfl, op_mv rfl (hs 10 rfl)⟩
                  | qi + 1, h, _ => omega
                · intro vs X2 hb hv hal hne
                  have HL0 := Hd.mk (HE.out.lt)
                  have HBW := HB
                  replace HB := Hd.mk (bel_then HB.out hb)
                  replace HE : Hd (Env X2 [⟨g8, 84, [.int .i64 (((Wn : Nat) : Int)), .int .i64 (((Hn : Nat) : Int))]⟩]) := ⟨HE.out.to hb⟩
                  have HLS := HL0
                  have HOL := Hd.mk HO.out.lt
                  replace HO := Hd.mk (HO.out.to hb)
                  have e32 : vs 32 = .int .i64 (((i : Nat) : Int)) := hv 0 (by decide) rfl
                  simp only [putAll, List.foldl_cons, List.foldl_nil, Act.put, List.setIfInBounds_toArray, List.set_cons_succ, List.set_cons_zero, List.drop_succ_cons, List.drop_zero, e32]
                  clear hv hal hne hb HL0 HBW HLS e32 HOL
                  go_upto_region 9 with fail
                  refine wp_region_vd 3 [33, 34, 35] [0, 2] [] 84 [.int .i64 0, .int .i64 0] [isV (.slice A ms.length k), isV (.int .i64 (((ms.length : Nat) : Int))), isV (.int .i64 0)] (by rfl) alloc_Z ?_ ?_
                  · intro qi qh qA aa wx hb hs hd
                    match qi, qh, qA with
                    | 0, _, _ => exact .inl ⟨rfl, op_mv rfl (hs 2 rfl)⟩
                    | 1, _, _ => exact .inl ⟨rfl, op_lenvVM rfl rfl (hd 0 rfl)⟩
                    | 2, _, _ => exact .inl ⟨rfl, op_mv rfl rfl⟩
                    | qi + 3, h, _ => omega
                  · intro vs X3 hb hv hal hne
                    have HL0 := Hd.mk (HE.out.lt)
                    have HBW := HB
                    replace HB := Hd.mk (bel_then HB.out hb)
                    replace HE : Hd (Env X3 [⟨g8, 84, [.int .i64 (((Wn : Nat) : Int)), .int .i64 (((Hn : Nat) : Int))]⟩]) := ⟨HE.out.to hb⟩
                    have HLS := HL0
                    have HOL := Hd.mk HO.out.lt
                    replace HO := Hd.mk (HO.out.to hb)
                    have e33 : vs 33 = .slice A ms.length k := hv 0 (by decide) rfl
                    have e34 : vs 34 = .int .i64 (((ms.length : Nat) : Int)) := hv 1 (by decide) rfl
                    have e35 : vs 35 = .int .i64 0 := hv 2 (by decide) rfl
                    simp only [putAll, List.foldl_cons, List.foldl_nil, Act.put, List.setIfInBounds_toArray, List.set_cons_succ, List.set_cons_zero, List.drop_succ_cons, List.drop_zero, e33, e34, e35]
                    clear hv hal hne hb HL0 HBW HLS e33 e34 e35 HOL
                    go_wp2_with fail
                    go_loopw [11, 35] (fun s11 s35 wr => ∃ b : Nat, b ≤ ms.length ∧ s35 = .int .i64 b ∧ s11 = .int .i64 (leastK Wn Hn ms i b) ∧ Env wr [⟨g8, 84, [.int .i64 (((Wn : Nat) : Int)), .int .i64 (((Hn : Nat) : Int))]⟩] ∧ OwnI (g8 + 1) wr u9 (cellsK Wn Hn ms i) ∧ Below w.heap.size w wr) (fun _ s35 _ => ms.length - (intOf s35).toNat)
                    case atStart => exact ⟨0, Nat.zero_le _, rfl, rfl, HE.out, HO.out, HB.out⟩
                    case round =>
                      obtain ⟨b, hbl, rfl, rfl, he, ho, hb⟩ := hrel
                      clear HB HE HO
                      have HB := Hd.mk hb
                      have HO := Hd.mk ho
                      have HE : Hd (Env wr [⟨g8, 84, [.int .i64 (((Wn : Nat) : Int)), .int .i64 (((Hn : Nat) : Int))]⟩]) := ⟨he⟩
                      clear he ho hb
                      by_cases hb2 : b < ms.length
                      · obtain ⟨ad, rfl⟩ := HRM.out.some_ (at_nthM hb2)
                        obtain ⟨LK, hlk⟩ : ∃ z, z = leastK Wn Hn ms i b := ⟨_, rfl⟩
                        rw [← hlk]
                        have HLK := Hd.mk hlk
                        clear hlk
                        go_upto_region 11 with fail
                        refine wp_region_vd 3 [37, 38, 13] [] [2] 31 [.int .i64 0, .int .i64 0, .int .i64 0, .bool false] [isV (.pointer (some (ad.add (b * 4)))), isV (.agg #[.int .i64 ((nthM ms b).x), .int .i64 ((nthM ms b).y), .int .i64 ((nthM ms b).t), .bool ((nthM ms b).f)]), SP.any] (by rfl) alloc_M ?_ ?_
                        · intro qi qh qA aa wx hb hs hd
                          match qi, qh, qA with
                          | 0, _, _ => exact .inl ⟨rfl, op_run rfl (op_idxVM hb2 rfl (hs 33 rfl) (hs 35 rfl) _) rfl⟩
                          | 1, _, _ => exact .inl ⟨rfl, op_ldvVM rfl rfl (hd 0 rfl) ((HRM.out.to (bel_then HB.out hb)).at_ (at_nthM hb2))⟩
                          | 2, _, h => cases h
                          | qi + 3, h, _ => omega
                        · intro vs X1 hb hv hal hne
                          have HL0 := Hd.mk (HE.out.lt)
                          have HBW := HB
                          replace HB := Hd.mk (bel_then HB.out hb)
                          replace HE : Hd (Env X1 [⟨g8, 84, [.int .i64 (((Wn : Nat) : Int)), .int .i64 (((Hn : Nat) : Int))]⟩]) := ⟨HE.out.to hb⟩
                          have HLS := HL0
                          have HOL := Hd.mk HO.out.lt
                          replace HO := Hd.mk (HO.out.to hb)
                          have e38 : vs 38 = .agg #[.int .i64 ((nthM ms b).x), .int .i64 ((nthM ms b).y), .int .i64 ((nthM ms b).t), .bool ((nthM ms b).f)] := hv 1 (by decide) rfl
                          obtain ⟨g13, e13, l13, b13⟩ : ∃ g, vs 13 = .pointer (some ⟨g, 0, none⟩) ∧ _ := hal 2 rfl
                          replace HE : Hd (Env X1 [⟨g8, 84, [.int .i64 (((Wn : Nat) : Int)), .int .i64 (((Hn : Nat) : Int))]⟩, ⟨g13, 31, [.int .i64 0, .int .i64 0, .int .i64 0, .bool false]⟩]) := ⟨Env.addne (e := ⟨g13, 31, [.int .i64 0, .int .i64 0, .int .i64 0, .bool false]⟩) HE.out b13 (fun e' he => Nat.ne_of_lt (Nat.lt_of_lt_of_le (HL0.out e' he) l13))⟩
                          have HOG13 : Hd (∀ k, u9.ownBlock = some k → k < g13) := ⟨fun k hk => Nat.lt_of_lt_of_le (HOL.out k hk).2 l13⟩
                          have G13 : Hd (w.heap.size ≤ g13) := ⟨Nat.le_trans HBW.out.size l13⟩
                          simp only [putAll, List.foldl_cons, List.foldl_nil, Act.put, List.setIfInBounds_toArray, List.set_cons_succ, List.set_cons_zero, List.drop_succ_cons, List.drop_zero, e38, e13]
                          generalize vs 37 = s37
                          clear hv hal hne hb HL0 HBW HLS e38 e13 l13 b13 HOL
                          refine wpList_st rfl rfl rfl rfl rfl (sto_M (HE.out.get 1 rfl)) ?_
                          have HE' : Env (putL X1 g13 0 [.int .i64 ((nthM ms b).x), .int .i64 ((nthM ms b).y), .int .i64 ((nthM ms b).t), .bool ((nthM ms b).f)]) [⟨g8, 84, [.int .i64 (((Wn : Nat) : Int)), .int .i64 (((Hn : Nat) : Int))]⟩, ⟨g13, 31, [.int .i64 ((nthM ms b).x), .int .i64 ((nthM ms b).y), .int .i64 ((nthM ms b).t), .bool ((nthM ms b).f)]⟩] := HE.out.putF 1 rfl rfl
                          have HB' := putL_below (show w.heap.size ≤ g13 from G13.out) [.int .i64 ((nthM ms b).x), .int .i64 ((nthM ms b).y), .int .i64 ((nthM ms b).t), .bool ((nthM ms b).f)] _ 0 HB.out
                          replace HO := Hd.mk (HO.out.put (vs := [.int .i64 ((nthM ms b).x), .int .i64 ((nthM ms b).y), .int .i64 ((nthM ms b).t), .bool ((nthM ms b).f)]) (o := 0) HOG13.out)
                          generalize putL X1 g13 0 [.int .i64 ((nthM ms b).x), .int .i64 ((nthM ms b).y), .int .i64 ((nthM ms b).t), .bool ((nthM ms b).f)] = X2 at *
                          replace HE := Hd.mk HE'
                          replace HB := Hd.mk HB'
                          clear HE' HB'
                          go_upto_region 12 with fail
                          refine wp_region_vd 6 [39, 40, 41, 42, 43, 44] [0, 3] [] 84 [.int .i64 0, .int .i64 0] [isV (.int .i64 LK), isV (.agg #[.int .i64 (((Wn : Nat) : Int)), .int .i64 (((Hn : Nat) : Int))]), isV (.agg #[.int .i64 ((nthM ms b).x), .int .i64 ((nthM ms b).y), .int .i64 ((nthM ms b).t), .bool ((nthM ms b).f)]), isV (.int .i64 (((i : Nat) : Int))), isV (.int .i64 (cellM Wn Hn (nthM ms b) i)), isV (.int .i64 (leastK Wn Hn ms i (b + 1)))] (by rfl) alloc_Z ?_ ?_
                          · intro qi qh qA aa wx hb hs hd
                            match qi, qh, qA with
                            | 0, _, _ => exact .inl ⟨rfl, op_mv rfl (hs 11 rfl)⟩
                            | 1, _, _ => exact .inl ⟨rfl, op_ldZ rfl rfl (hs 8 rfl) ((HE.out.to hb).get 0 rfl)⟩
                            | 2, _, _ => exact .inl ⟨rfl, op_ldM rfl rfl (hs 13 rfl) ((HE.out.to hb).get 1 rfl)⟩
                            | 3, _, _ => exact .inl ⟨rfl, op_mv rfl (hs 10 rfl)⟩
                            | 4, _, _ => exact .inl ⟨rfl, op_call3 rfl rfl Try.call64 (by rw [(show aa.eval (.tmp 40) = .agg #[.int .i64 (((Wn : Nat) : Int)), .int .i64 (((Hn : Nat) : Int))] from (hd 1 rfl)), (show aa.eval (.tmp 41) = .agg #[.int .i64 ((nthM ms b).x), .int .i64 ((nthM ms b).y), .int .i64 ((nthM ms b).t), .bool ((nthM ms b).f)] from (hd 2 rfl)), (show aa.eval (.tmp 42) = .int .i64 (((i : Nat) : Int)) from (hd 3 rfl))]; exact to_m (HALL.out b hb2) i (by omega) _)⟩
                            | 5, _, _ => exact .inl ⟨rfl, wp_b (int_eq (by rw [HLK.out]; rfl)) (op_min rfl rfl (hd 0 rfl) (hd 4 rfl))⟩
                            | qi + 6, h, _ => omega
                          · intro vs X3 hb hv hal hne
                            have HL0 := Hd.mk (HE.out.lt)
                            have HBW := HB
                            replace HB := Hd.mk (bel_then HB.out hb)
                            replace HE : Hd (Env X3 [⟨g8, 84, [.int .i64 (((Wn : Nat) : Int)), .int .i64 (((Hn : Nat) : Int))]⟩, ⟨g13, 31, [.int .i64 ((nthM ms b).x), .int .i64 ((nthM ms b).y), .int .i64 ((nthM ms b).t), .bool ((nthM ms b).f)]⟩]) := ⟨HE.out.to hb⟩
                            have HLS := HL0
                            have HOL := Hd.mk HO.out.lt
                            replace HO := Hd.mk (HO.out.to hb)
                            have e44 : vs 44 = .int .i64 (leastK Wn Hn ms i (b + 1)) := hv 5 (by decide) rfl
                            simp only [putAll, List.foldl_cons, List.foldl_nil, Act.put, List.setIfInBounds_toArray, List.set_cons_succ, List.set_cons_zero, List.drop_succ_cons, List.drop_zero, e44]
                            generalize vs 39 = s39
                            generalize vs 40 = s40
                            generalize vs 41 = s41
                            generalize vs 42 = s42
                            generalize vs 43 = s43
                            clear hv hal hne hb HL0 HBW HLS e44 HOL
                            go_wp2_with fail
                            go_roundw
                            case rel => exact ⟨b + 1, by omega, by go_num, rfl, Env.front (L := [⟨g8, 84, [.int .i64 (((Wn : Nat) : Int)), .int .i64 (((Hn : Nat) : Int))]⟩]) HE.out, HO.out, HB.out⟩
                            case measure => simp [intOf]; omega
                      · have e2 : b = ms.length := by omega
                        obtain ⟨LK, hlk⟩ : ∃ z, z = leastK Wn Hn ms i b := ⟨_, rfl⟩
                        rw [← hlk]
                        have HLK := Hd.mk (show leastK Wn Hn ms i ms.length = LK from by rw [hlk, e2])
                        clear hlk
                        obtain ⟨i0, hi0, hz0, hz1, hz2⟩ := info_parts Try.info_int
                        have hcl := cellsK_length Wn Hn ms i
                        have HXS := Nat.le_trans HB.out.size (Nat.le_refl _)
                        have hg8 := (HE.out.get 0 rfl).lt
                        have HCA := Hd.mk (cellsK_add Wn Hn ms i)
                        generalize hxs : cellsK Wn Hn ms i = xs at HO hcl HCA
                        clear hxs
                        go_wp2_with (first | (at_builtin; refine wpList_append_own _ rfl (.tmp 46) (.tmp 48) 22 rfl (g8 + 1) 3 i0 (.int .i64 0) 1 8 Try.underlying22 hi0 hz0 hz1 hz2 rfl (by decide) u9 xs.length (ints xs) rfl (HO.out.alloc _) ⟨wr.heap.size, 0, none⟩ 1 1 [.int .i64 LK] rfl rfl ?c1 ?c2 ?c3 ?c4 ?c5 ?_) | fail)
                        case c1 =>
                          intro z u hz
                          rcases z with _ | z <;> simp at hz
                          subst hz
                          simp [Addr.add]
                        case c2 =>
                          intro u hu
                          simp at hu
                          subst hu
                          rfl
                        case c3 => unfold maxLen; omega
                        case c4 => omega
                        case c5 => simp; omega
                        intro v1 w1 hown1 hg1 _
                        have hl1 := World.ownsRow.lt hown1
                        have HB1 := (below_alloc HB.out _).grown hg1 (by simp; omega) (fun z hz => Nat.le_trans (Nat.le_succ_of_le G8.out) (HO.out.lt z hz).1)
                        have HE1 := Env.grownBy_ (HE.out.alloc_ _) hg1 (fun e he hz => by
                          rw [List.mem_singleton.1 he] at hz
                          have := (HO.out.lt g8 hz.symm).1
                          omega)
                        have HO1 : OwnI (g8 + 1) w1 v1 (cellsK Wn Hn ms (i + 1)) := by
                          rw [HCA.out, HLK.out]
                          unfold OwnI
                          rw [show (xs ++ [LK]).length = i + 1 from by rw [List.length_append, hcl]; rfl, show ints (xs ++ [LK]) = ints xs ++ [.int .i64 LK] from by simp [ints]]
                          exact hown1
                        go_wp2_with fail
                        go_roundw
                        case rel => exact ⟨i + 1, by omega, by go_num, HE1, HO1, HB1⟩
                        case measure => simp [intOf]; omega
            · have e1 : i = N := by omega
              go_wp2_with fail
              refine bodyPost_ret (v := .tuple #[u9, .int .i64 0]) (by simp [results, Try.results29, go_sem]) rfl ?_
              exact ⟨_, rfl, HB.out, _, _, rfl, OwnI.lower (Nat.le_succ_of_le G8.out) (by rw [← e1]; exact HO.out), rfl⟩
end Go.Proofs.Ytddbmckbankmeaa
