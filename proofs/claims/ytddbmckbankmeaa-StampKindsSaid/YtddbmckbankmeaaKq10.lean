/- Part 10 of the texts behind this claim. -/
import Derived.Test.YtddbmckbankmeaaKq9
set_option linter.unusedVariables false
set_option linter.unusedSimpArgs false
namespace Go.Proofs.Ytddbmckbankmeaa
open Go.RowKit
def PerAt (W H : Int) (q : Nat) (m : Int) : Prop := q ≤ 5 ∧ m = W + W * q ∧ (∀ j : Nat, j < q → (W + W * j) % H ≠ 0) ∧ perN W H = perG W H (8 - q) m
section
variable {W H m : Int} {q : Nat}
theorem PerAt.start : PerAt W H 0 W := ⟨by omega, by simp, fun j hj => by omega, rfl⟩
theorem PerAt.bound (h : PerAt W H q m) (hW : 1 ≤ W ∧ W ≤ 6) : 1 ≤ m ∧ m ≤ 36 := by
  obtain ⟨h1, h2, _⟩ := h
  have := mul_b (a := W) (b := (q : Int)) (A := 6) (B := 5) (by omega) (by omega)
  omega
theorem PerAt.step (h : PerAt W H q m) (hW : 1 ≤ W ∧ W ≤ 6) (hH : 1 ≤ H ∧ H ≤ 6) (hne : m % H ≠ 0) : PerAt W H (q + 1) (m + W) := by
  obtain ⟨h1, h2, h3, h4⟩ := h
  have hq := per_ends hW hH h1 h3 (by rw [← h2]; exact hne)
  refine ⟨by omega, ?_, fun j hj => ?_, ?_⟩
  · rw [h2, Int.natCast_add, Int.mul_add]
    simp
    omega
  · by_cases e : j = q
    · rw [e, ← h2]
      exact hne
    · exact h3 j (by omega)
  · rw [h4, show 8 - q = (8 - (q + 1)) + 1 by omega, perG_step _ hne]
theorem PerAt.stop (h : PerAt W H q m) (he : m % H = 0) : perN W H = m := by rw [h.2.2.2, perG_end _ he]
end
theorem colF_lt {W H : Int} (hW : 1 ≤ W ∧ W ≤ 6) (hH : 1 ≤ H ∧ H ≤ 6) (x y : Int) : (0 ≤ x % W ∧ x % W < W) ∧ (0 ≤ y % H ∧ y % H < H) ∧ 0 ≤ (y % H) * W + x % W ∧ (y % H) * W + x % W < W * H := by
  have h1 := Int.emod_nonneg x (show W ≠ 0 by omega)
  have h2 := Int.emod_lt_of_pos x (show 0 < W by omega)
  have h3 := Int.emod_nonneg y (show H ≠ 0 by omega)
  have h4 := Int.emod_lt_of_pos y (show 0 < H by omega)
  have h5 := Int.mul_nonneg h3 (show 0 ≤ W by omega)
  have h6 := Int.mul_le_mul_of_nonneg_right (show y % H ≤ H - 1 by omega) (show 0 ≤ W by omega)
  rw [Int.sub_mul, Int.one_mul, Int.mul_comm H W] at h6
  exact ⟨⟨h1, h2⟩, ⟨h3, h4⟩, by omega, by omega⟩
def SymR (f : Int → Int → Int) (g : Bool) (k : Nat) (a b n : Int) (x y : Nat) : Prop := ∀ p q : Int, 0 ≤ p → 0 ≤ q → q < n → (p < x ∨ (p = x ∧ q < y)) → f ((trn g p q k).1 + a) ((trn g p q k).2 + b) = f p q
section
variable {f : Int → Int → Int} {g : Bool} {k : Nat} {a b n : Int} {x y : Nat}
theorem SymR.start : SymR f g k a b n 0 0 := fun p q h1 h2 h3 h4 => by omega
theorem SymR.cell (h : SymR f g k a b n x y) (he : f ((trn g x y k).1 + a) ((trn g x y k).2 + b) = f x y) : SymR f g k a b n x (y + 1) := fun p q h1 h2 h3 h4 => by
  by_cases e : p = x ∧ q = y
  · rw [e.1, e.2]
    exact he
  · exact h p q h1 h2 h3 (by omega)
theorem SymR.row (h : SymR f g k a b n x y) (he : n ≤ y) : SymR f g k a b n (x + 1) 0 := fun p q h1 h2 h3 h4 => h p q h1 h2 h3 (by omega)
theorem SymR.all (h : SymR f g k a b n x 0) (he : n ≤ x) : SymN n f g k a b := fun p q h1 h2 h3 h4 => h p q h1 h3 h4 (by omega)
theorem not_sym {p q : Int} (h : ¬ f ((trn g p q k).1 + a) ((trn g p q k).2 + b) = f p q) : ¬ Sym f g k a b := fun hs => h (hs p q)
end
def NoR (f : Int → Int → Int) (g : Bool) (k : Nat) (n : Int) (x y : Nat) : Prop := ∀ p q : Int, 0 ≤ p → 0 ≤ q → q < n → (p < x ∨ (p = x ∧ q < y)) → ¬ Sym f g k p q
section
variable {f : Int → Int → Int} {g : Bool} {k : Nat} {n : Int} {x y : Nat}
theorem NoR.start : NoR f g k n 0 0 := fun p q h1 h2 h3 h4 => by omega
theorem NoR.cell (h : NoR f g k n x y) (he : ¬ Sym f g k x y) : NoR f g k n x (y + 1) := fun p q h1 h2 h3 h4 => by
  by_cases e : p = x ∧ q = y
  · rw [e.1, e.2]
    exact he
  · exact h p q h1 h2 h3 (by omega)
theorem NoR.row (h : NoR f g k n x y) (he : n ≤ y) : NoR f g k n (x + 1) 0 := fun p q h1 h2 h3 h4 => h p q h1 h2 h3 (by omega)
theorem NoR.all (h : NoR f g k n x 0) (he : n ≤ x) (hn : 0 < n) (hp : Per n f) : ¬ Ex f g k := fun hs => by
  obtain ⟨p, q, hw, hs⟩ := (ex_win hn hp).2 hs
  exact h p q hw.1.1 hw.2.1 hw.2.2 (by omega) hs
end
theorem lto_trn (g : Bool) (T : Nat) (x y : Int) (hx : -1000 ≤ x ∧ x ≤ 1000) (hy : -1000 ≤ y ∧ y ≤ 1000) (w : World) :
    Calls Try.prog 61 #[.agg #[.int .i64 (lin g T).a, .int .i64 (lin g T).b, .int .i64 (lin g T).c, .int .i64 (lin g T).d], .int .i64 x, .int .i64 y] w (Got w (isP (isV (.int .i64 (trn g x y T).1)) (isV (.int .i64 (trn g x y T).2))).p) := by
  have h := lto_got (lin g T) x y (lin_bound g T) hx hy w
  rw [← lin_trn g x y T]
  exact h
set_option maxRecDepth 100000 in
set_option maxHeartbeats 1000000 in
theorem period_got (Wd Ht : Int) (A : Option Addr) (k : Nat) (xs : List Int) (hW : 1 ≤ Wd ∧ Wd ≤ 6) (hH : 1 ≤ Ht ∧ Ht ≤ 6) (w : World) :
    Calls Try.prog 85 #[.agg #[.int .i64 Wd, .int .i64 Ht, .slice A xs.length k]] w (Got w (isV (.int .i64 (perN Wd Ht))).p) := by
  have HW := Hd.mk hW
  have HH := Hd.mk hH
  go_enter Try.func85, Try.ntmps85
  go_upto_region 1 with fail
  obtain ⟨W0, hW0⟩ : ∃ W : World, W = w.alloc (.cells #[.int .i64 Wd, .int .i64 Ht, .slice A xs.length k] 24) := ⟨_, rfl⟩
  rw [← hW0]
  obtain ⟨he, hb⟩ := env_one hW0
  have HE := Hd.mk he
  have HB := Hd.mk hb
  clear he hb hW0
  refine wp_region_vd 2 [4, 5] [0] [] 84 [.int .i64 0, .int .i64 0] [isV (.pointer (some ⟨w.heap.size, 0, none⟩)), isV (.int .i64 Wd)] (by rfl) alloc_Z ?_ ?_
  · intro qi qh qA aa wx hb hs hd
    match qi, qh, qA with
    | 0, _, _ => exact .inl ⟨rfl, ⟨_, op_faU0 rfl (hs 1 rfl), rfl⟩⟩
    | 1, _, _ => exact .inl ⟨rfl, op_ldI rfl rfl (hd 0 rfl) ((HE.out.to hb).cell 0 0 rfl rfl)⟩
    | qi + 2, h, _ => omega
  · intro vs X1 hb hv hal hne
    have HL0 := Hd.mk (HE.out.lt)
    have HBW := HB
    replace HB := Hd.mk (bel_then HB.out hb)
    replace HE : Hd (Env X1 [⟨w.heap.size, 24, [.int .i64 Wd, .int .i64 Ht, .slice A xs.length k]⟩]) := ⟨HE.out.to hb⟩
    have HLS := HL0
    have e5 : vs 5 = .int .i64 Wd := hv 1 (by decide) rfl
    simp only [putAll, List.foldl_cons, List.foldl_nil, Act.put, List.setIfInBounds_toArray, List.set_cons_succ, List.set_cons_zero, List.drop_succ_cons, List.drop_zero, e5]
    generalize vs 4 = s4
    clear hv hal hne hb HL0 HBW HLS e5
    go_wp2_with fail
    go_loopw [3] (fun s3 wr => ∃ (q : Nat) (m : Int), s3 = .int .i64 m ∧ (Env wr [⟨w.heap.size, 24, [.int .i64 Wd, .int .i64 Ht, .slice A xs.length k]⟩] ∧ Below w.heap.size w wr) ∧ PerAt Wd Ht q m) (fun s3 _ => 100 - (intOf s3).toNat)
    case atStart => exact ⟨0, Wd, rfl, ⟨HE.out, HB.out⟩, PerAt.start⟩
    case round =>
      obtain ⟨q, m, rfl, ⟨he, hb⟩, hp⟩ := hrel
      clear HB HE
      have HB := Hd.mk hb
      have HE : Hd (Env wr [⟨w.heap.size, 24, [.int .i64 Wd, .int .i64 Ht, .slice A xs.length k]⟩]) := ⟨he⟩
      clear he hb
      have hm := hp.bound HW.out
      have HP := Hd.mk hp
      clear hp
      have HT := Hd.mk (tmod_nonneg (j := Ht) (show 0 ≤ m by omega))
      by_cases h0 : m % Ht = 0
      · skip
        go_upto_region 2 with fail
        refine wp_region_vd 5 [6, 7, 8, 9, 10] [0, 1, 4] [] 84 [.int .i64 0, .int .i64 0] [isV (.int .i64 m), isV (.pointer (some ⟨w.heap.size, 1, none⟩)), isV (.int .i64 Ht), isV (.int .i64 (m % Ht)), isV (.bool false)] (by rfl) alloc_Z ?_ ?_
        · intro qi qh qA aa wx hb hs hd
          match qi, qh, qA with
          | 0, _, _ => exact .inl ⟨rfl, op_mv rfl (hs 3 rfl)⟩
          | 1, _, _ => exact .inl ⟨rfl, ⟨_, op_faU1 rfl (hs 1 rfl), rfl⟩⟩
          | 2, _, _ => exact .inl ⟨rfl, op_ldI rfl rfl (hd 1 rfl) ((HE.out.to hb).cell 0 1 rfl rfl)⟩
          | 3, _, _ => exact .inl ⟨rfl, wp_b (int_eq HT.out) (op_run rfl (op_rem (by omega) (by unfold Fit; omega) (by omega) rfl (hd 0 rfl) (hd 2 rfl) _) rfl)⟩
          | 4, _, _ => exact .inl ⟨rfl, pure_b (bool_eq (by rw [decide_eq_true h0]; rfl)) (⟨_, op_neqI rfl (hd 3 rfl) rfl, rfl⟩)⟩
          | qi + 5, h, _ => omega
        · intro vs X1 hb hv hal hne
          have HL0 := Hd.mk (HE.out.lt)
          have HBW := HB
          replace HB := Hd.mk (bel_then HB.out hb)
          replace HE : Hd (Env X1 [⟨w.heap.size, 24, [.int .i64 Wd, .int .i64 Ht, .slice A xs.length k]⟩]) := ⟨HE.out.to hb⟩
          have HLS := HL0
          have e10 : vs 10 = .bool false := hv 4 (by decide) rfl
          simp only [putAll, List.foldl_cons, List.foldl_nil, Act.put, List.setIfInBounds_toArray, List.set_cons_succ, List.set_cons_zero, List.drop_succ_cons, List.drop_zero, e10]
          generalize vs 6 = s6
          generalize vs 7 = s7
          generalize vs 8 = s8
          generalize vs 9 = s9
          clear hv hal hne hb HL0 HBW HLS e10
          go_upto_region 4 with fail
          refine wp_region_vd 1 [15] [0] [] 84 [.int .i64 0, .int .i64 0] [isV (.int .i64 m)] (by rfl) alloc_Z ?_ ?_
          · intro qi qh qA aa wx hb hs hd
            match qi, qh, qA with
            | 0, _, _ => exact .inl ⟨rfl, op_mv rfl (hs 3 rfl)⟩
            | qi + 1, h, _ => omega
          · intro vs X2 hb hv hal hne
            have HL0 := Hd.mk (HE.out.lt)
            have HBW := HB
            replace HB := Hd.mk (bel_then HB.out hb)
            replace HE : Hd (Env X2 [⟨w.heap.size, 24, [.int .i64 Wd, .int .i64 Ht, .slice A xs.length k]⟩]) := ⟨HE.out.to hb⟩
            have HLS := HL0
            have e15 : vs 15 = .int .i64 m := hv 0 (by decide) rfl
            simp only [putAll, List.foldl_cons, List.foldl_nil, Act.put, List.setIfInBounds_toArray, List.set_cons_succ, List.set_cons_zero, List.drop_succ_cons, List.drop_zero, e15]
            clear hv hal hne hb HL0 HBW HLS e15
            go_wp2_with fail
            go_ret
            exact ⟨_, rfl, HB.out, by show Value.int _ _ = _; rw [HP.out.stop h0]⟩
      · skip
        go_upto_region 2 with fail
        refine wp_region_vd 5 [6, 7, 8, 9, 10] [0, 1, 4] [] 84 [.int .i64 0, .int .i64 0] [isV (.int .i64 m), isV (.pointer (some ⟨w.heap.size, 1, none⟩)), isV (.int .i64 Ht), isV (.int .i64 (m % Ht)), isV (.bool true)] (by rfl) alloc_Z ?_ ?_
        · intro qi qh qA aa wx hb hs hd
          match qi, qh, qA with
          | 0, _, _ => exact .inl ⟨rfl, op_mv rfl (hs 3 rfl)⟩
          | 1, _, _ => exact .inl ⟨rfl, ⟨_, op_faU1 rfl (hs 1 rfl), rfl⟩⟩
          | 2, _, _ => exact .inl ⟨rfl, op_ldI rfl rfl (hd 1 rfl) ((HE.out.to hb).cell 0 1 rfl rfl)⟩
          | 3, _, _ => exact .inl ⟨rfl, wp_b (int_eq HT.out) (op_run rfl (op_rem (by omega) (by unfold Fit; omega) (by omega) rfl (hd 0 rfl) (hd 2 rfl) _) rfl)⟩
          | 4, _, _ => exact .inl ⟨rfl, pure_b (bool_eq (by rw [decide_eq_false h0]; rfl)) (⟨_, op_neqI rfl (hd 3 rfl) rfl, rfl⟩)⟩
          | qi + 5, h, _ => omega
        · intro vs X1 hb hv hal hne
          have HL0 := Hd.mk (HE.out.lt)
          have HBW := HB
          replace HB := Hd.mk (bel_then HB.out hb)
          replace HE : Hd (Env X1 [⟨w.heap.size, 24, [.int .i64 Wd, .int .i64 Ht, .slice A xs.length k]⟩]) := ⟨HE.out.to hb⟩
          have HLS := HL0
          have e10 : vs 10 = .bool true := hv 4 (by decide) rfl
          simp only [putAll, List.foldl_cons, List.foldl_nil, Act.put, List.setIfInBounds_toArray, List.set_cons_succ, List.set_cons_zero, List.drop_succ_cons, List.drop_zero, e10]
          generalize vs 6 = s6
          generalize vs 7 = s7
          generalize vs 8 = s8
          generalize vs 9 = s9
          clear hv hal hne hb HL0 HBW HLS e10
          go_upto_region 3 with fail
          refine wp_region_vd 4 [11, 12, 13, 14] [0, 1, 3] [] 84 [.int .i64 0, .int .i64 0] [isV (.int .i64 m), isV (.pointer (some ⟨w.heap.size, 0, none⟩)), isV (.int .i64 Wd), isV (.int .i64 (m + Wd))] (by rfl) alloc_Z ?_ ?_
          · intro qi qh qA aa wx hb hs hd
            match qi, qh, qA with
            | 0, _, _ => exact .inl ⟨rfl, op_mv rfl (hs 3 rfl)⟩
            | 1, _, _ => exact .inl ⟨rfl, ⟨_, op_faU0 rfl (hs 1 rfl), rfl⟩⟩
            | 2, _, _ => exact .inl ⟨rfl, op_ldI rfl rfl (hd 1 rfl) ((HE.out.to hb).cell 0 0 rfl rfl)⟩
            | 3, _, _ => exact .inl ⟨rfl, ⟨_, op_add (by unfold Fit; omega) rfl (hd 0 rfl) (hd 2 rfl), rfl⟩⟩
            | qi + 4, h, _ => omega
          · intro vs X2 hb hv hal hne
            have HL0 := Hd.mk (HE.out.lt)
            have HBW := HB
            replace HB := Hd.mk (bel_then HB.out hb)
            replace HE : Hd (Env X2 [⟨w.heap.size, 24, [.int .i64 Wd, .int .i64 Ht, .slice A xs.length k]⟩]) := ⟨HE.out.to hb⟩
            have HLS := HL0
            have e14 : vs 14 = .int .i64 (m + Wd) := hv 3 (by decide) rfl
            simp only [putAll, List.foldl_cons, List.foldl_nil, Act.put, List.setIfInBounds_toArray, List.set_cons_succ, List.set_cons_zero, List.drop_succ_cons, List.drop_zero, e14]
            generalize vs 11 = s11
            generalize vs 12 = s12
            generalize vs 13 = s13
            clear hv hal hne hb HL0 HBW HLS e14
            go_wp2_with fail
            go_roundw
            case rel => exact ⟨q + 1, m + Wd, rfl, ⟨HE.out, HB.out⟩, HP.out.step HW.out HH.out h0⟩
            case measure => simp [intOf]; omega
set_option maxRecDepth 100000 in
set_option maxHeartbeats 1000000 in
theorem colour_got (Wd Ht : Int) (ad : Addr) (k : Nat) (xs : List Int) (x y : Int) (hW : 1 ≤ Wd ∧ Wd ≤ 6) (hH : 1 ≤ Ht ∧ Ht ≤ 6) (hx : -1000 ≤ x ∧ x ≤ 1000) (hy : -1000 ≤ y ∧ y ≤ 1000) (w : World) (hri : RI w (some ad) xs) (hl : (xs.length : Int) = Wd * Ht) :
    Calls Try.prog 96 #[.agg #[.int .i64 Wd, .int .i64 Ht, .slice (some ad) xs.length k], .int .i64 x, .int .i64 y] w (Got w (isV (.int .i64 (colF Wd Ht xs x y))).p) := by
  have HRI := Hd.mk hri
  clear hri
  have hcl := colF_lt hW hH x y
  have hwh := mul_b (a := Wd) (b := Ht) (A := 6) (B := 6) (by omega) (by omega)
  have hlt : ((y % Ht) * Wd + x % Wd).toNat < xs.length := by omega
  go_enter Try.func96, Try.ntmps96
  go_upto_region 1 with fail
  obtain ⟨W0, hW0⟩ : ∃ W : World, W = w.alloc (.cells #[.int .i64 Wd, .int .i64 Ht, .slice (some ad) xs.length k] 24) := ⟨_, rfl⟩
  rw [← hW0]
  obtain ⟨he, hb⟩ := env_one hW0
  have HE := Hd.mk he
  have HB := Hd.mk hb
  clear he hb hW0
  refine wp_region_vs 17 [7, 8, 9, 10, 11, 12, 13, 14, 15, 16, 17, 18, 19, 20, 21, 22, 6] [0, 2, 3, 6, 8, 9, 10, 13, 16] [] 84 [.int .i64 0, .int .i64 0] [isV (.pointer (some ⟨w.heap.size, 2, none⟩)), isV (.slice (some ad) xs.length k), isV (.int .i64 y), isV (.pointer (some ⟨w.heap.size, 1, none⟩)), isV (.int .i64 Ht), isV (.int .i64 (y % Ht)), isV (.pointer (some ⟨w.heap.size, 0, none⟩)), isV (.int .i64 Wd), isV (.int .i64 ((y % Ht) * Wd)), isV (.int .i64 x), isV (.pointer (some ⟨w.heap.size, 0, none⟩)), isV (.int .i64 Wd), isV (.int .i64 (x % Wd)), isV (.int .i64 (((y % Ht) * Wd) + (x % Wd))), isV (.pointer (some (Addr.add ad (((y % Ht) * Wd) + (x % Wd)).toNat))), isV (.int .i64 (colF Wd Ht xs x y)), isV (.int .i64 (colF Wd Ht xs x y))] (by kernel_rfl) (by kernel_rfl) (by kernel_rfl) (by rfl) alloc_Z (fun d v c a w h => by cases d <;> exact h) ?_ ?_
  · intro qi qh qA aa wx hb hs hd
    match qi, qh, qA with
    | 0, _, _ => exact ⟨_, op_faU2 rfl (hs 3 rfl), rfl⟩
    | 1, _, _ => exact op_ldS rfl rfl (hd 0 rfl) ((HE.out.to hb).cell 0 2 rfl rfl)
    | 2, _, _ => exact op_mv rfl (hs 2 rfl)
    | 3, _, _ => exact ⟨_, op_faU1 rfl (hs 3 rfl), rfl⟩
    | 4, _, _ => exact op_ldI rfl rfl (hd 3 rfl) ((HE.out.to hb).cell 0 1 rfl rfl)
    | 5, _, _ => exact op_call2 rfl rfl Try.call62 (by rw [(show aa.eval (.tmp 9) = .int .i64 y from (hd 2 rfl)), (show aa.eval (.tmp 11) = .int .i64 Ht from (hd 4 rfl))]; exact modulo_got y Ht (by omega) (by omega) _)
    | 6, _, _ => exact ⟨_, op_faU0 rfl (hs 3 rfl), rfl⟩
    | 7, _, _ => exact op_ldI rfl rfl (hd 6 rfl) ((HE.out.to hb).cell 0 0 rfl rfl)
    | 8, _, _ => exact ⟨_, op_mul (by unfold Fit; omega) rfl (hd 5 rfl) (hd 7 rfl), rfl⟩
    | 9, _, _ => exact op_mv rfl (hs 1 rfl)
    | 10, _, _ => exact ⟨_, op_faU0 rfl (hs 3 rfl), rfl⟩
    | 11, _, _ => exact op_ldI rfl rfl (hd 10 rfl) ((HE.out.to hb).cell 0 0 rfl rfl)
    | 12, _, _ => exact op_call2 rfl rfl Try.call62 (by rw [(show aa.eval (.tmp 16) = .int .i64 x from (hd 9 rfl)), (show aa.eval (.tmp 18) = .int .i64 Wd from (hd 11 rfl))]; exact modulo_got x Wd (by omega) (by omega) _)
    | 13, _, _ => exact ⟨_, op_add (by unfold Fit; omega) rfl (hd 8 rfl) (hd 12 rfl), rfl⟩
    | 14, _, _ => exact op_run rfl (op_idx (by omega) (by omega) rfl (hd 1 rfl) (hd 13 rfl) _) rfl
    | 15, _, _ => exact op_ldAt rfl rfl (hd 14 rfl) ((HRI.out.to (bel_then HB.out hb)).cellq hlt)
    | 16, _, _ => exact op_asg rfl (hd 15 rfl)
    | qi + 17, h, _ => omega
  · intro vs X1 hb hv hal hne
    have HL0 := Hd.mk (HE.out.lt)
    have HBW := HB
    replace HB := Hd.mk (bel_then HB.out hb)
    replace HE : Hd (Env X1 [⟨w.heap.size, 24, [.int .i64 Wd, .int .i64 Ht, .slice (some ad) xs.length k]⟩]) := ⟨HE.out.to hb⟩
    have HLS := HL0
    have e6 : vs 6 = .int .i64 (colF Wd Ht xs x y) := hv 16 (by decide) rfl
    simp only [putAll, List.foldl_cons, List.foldl_nil, Act.put, List.setIfInBounds_toArray, List.set_cons_succ, List.set_cons_zero, List.drop_succ_cons, List.drop_zero, e6]
    generalize vs 7 = s7
    generalize vs 8 = s8
    generalize vs 9 = s9
    generalize vs 10 = s10
    generalize vs 11 = s11
    generalize vs 12 = s12
    generalize vs 13 = s13
    generalize vs 14 = s14
    generalize vs 15 = s15
    generalize vs 16 = s16
    generalize vs 17 = s17
    generalize vs 18 = s18
    generalize vs 19 = s19
    generalize vs 20 = s20
    generalize vs 21 = s21
    generalize vs 22 = s22
    clear hv hal hne hb HL0 HBW HLS e6
    go_wp2_with fail
    go_ret
    exact ⟨_, rfl, HB.out, rfl⟩
set_option maxRecDepth 100000 in
set_option maxHeartbeats 1000000 in
theorem rkeeps_got (Wd Ht : Int) (ad : Addr) (k : Nat) (xs : List Int) (g : Bool) (T : Nat) (a b : Int) (hW : 1 ≤ Wd ∧ Wd ≤ 6) (hH : 1 ≤ Ht ∧ Ht ≤ 6) (ha : -200 ≤ a ∧ a ≤ 200) (hb : -200 ≤ b ∧ b ≤ 200) (w : World) (hri : RI w (some ad) xs) (hl : (xs.length : Int) = Wd * Ht) (hT : T < 4) :
    Calls Try.prog 86 #[.agg #[.int .i64 Wd, .int .i64 Ht, .slice (some ad) xs.length k], .agg #[.int .i64 ((lin g T).a), .int .i64 ((lin g T).b), .int .i64 ((lin g T).c), .int .i64 ((lin g T).d)], .int .i64 a, .int .i64 b] w (Got w (isV (.bool (bP (Sym (colF Wd Ht xs) g T a b)))).p) := by
  have HL := Hd.mk hl
  have HRI := Hd.mk hri
  clear hri
  have HW := Hd.mk hW
  have HH := Hd.mk hH
  have hwh := mul_b (a := Wd) (b := Ht) (A := 6) (B := 6) (by omega) (by omega)
  have hpn := perN_eq hW hH
  have HPER := Hd.mk (per_of (xs := xs) hpn.2.1 hpn.2.2)
  obtain ⟨n, hn⟩ : ∃ n, n = perN Wd Ht := ⟨_, rfl⟩
  rw [← hn] at hpn HPER
  have HN : Hd (perN Wd Ht = n) := ⟨hn.symm⟩
  obtain ⟨hn1, hn2, hn3⟩ := hpn
  clear hn hn2 hn3
  have hab := ha
  have hbb := hb
  clear ha hb
  go_enter Try.func86, Try.ntmps86
  go_upto_region 1 with fail
  obtain ⟨W0, hW0⟩ : ∃ W : World, W = (w.alloc (.cells #[.int .i64 Wd, .int .i64 Ht, .slice (some ad) xs.length k] 24)).alloc (.cells #[.int .i64 ((lin g T).a), .int .i64 ((lin g T).b), .int .i64 ((lin g T).c), .int .i64 ((lin g T).d)] 95) := ⟨_, rfl⟩
  rw [← hW0]
  obtain ⟨he, hb⟩ := env_two hW0
  have HE := Hd.mk he
  have HB := Hd.mk hb
  clear he hb hW0
  refine wp_region_vd 2 [14, 15] [] [] 84 [.int .i64 0, .int .i64 0] [isV (.agg #[.int .i64 Wd, .int .i64 Ht, .slice (some ad) xs.length k]), isV (.int .i64 n)] (by rfl) alloc_Z ?_ ?_
  · intro qi qh qA aa wx hb hs hd
    match qi, qh, qA with
    | 0, _, _ => exact .inl ⟨rfl, op_ldU rfl rfl (hs 4 rfl) ((HE.out.to hb).get 0 rfl)⟩
    | 1, _, _ => exact .inl ⟨rfl, wp_b (int_eq HN.out) (op_call1 rfl rfl Try.call85 (by rw [(show aa.eval (.tmp 14) = .agg #[.int .i64 Wd, .int .i64 Ht, .slice (some ad) xs.length k] from (hd 0 rfl))]; exact period_got Wd Ht (some ad) k xs HW.out HH.out _))⟩
    | qi + 2, h, _ => omega
  · intro vs X1 hb hv hal hne
    have HL0 := Hd.mk (HE.out.lt)
    have HBW := HB
    replace HB := Hd.mk (bel_then HB.out hb)
    replace HE : Hd (Env X1 [⟨w.heap.size, 24, [.int .i64 Wd, .int .i64 Ht, .slice (some ad) xs.length k]⟩, ⟨w.heap.size + 1, 95, [.int .i64 ((lin g T).a), .int .i64 ((lin g T).b), .int .i64 ((lin g T).c), .int .i64 ((lin g T).d)]⟩]) := ⟨HE.out.to hb⟩
    have HLS := HL0
    have e15 : vs 15 = .int .i64 n := hv 1 (by decide) rfl
    simp only [putAll, List.foldl_cons, List.foldl_nil, Act.put, List.setIfInBounds_toArray, List.set_cons_succ, List.set_cons_zero, List.drop_succ_cons, List.drop_zero, e15]
    generalize vs 14 = s14
    clear hv hal hne hb HL0 HBW HLS e15
    go_upto_region 2 with fail
    refine wp_region_vd 2 [16, 17] [0, 1] [] 84 [.int .i64 0, .int .i64 0] [isV (.int .i64 n), isV (.int .i64 0)] (by rfl) alloc_Z ?_ ?_
    · intro qi qh qA aa wx hb hs hd
      match qi, qh, qA with
      | 0, _, _ => exact .inl ⟨rfl, op_mv rfl (hs 9 rfl)⟩
      | 1, _, _ => exact .inl ⟨rfl, op_mv rfl rfl⟩
      | qi + 2, h, _ => omega
    · intro vs X2 hb hv hal hne
      have HL0 := Hd.mk (HE.out.lt)
      have HBW := HB
      replace HB := Hd.mk (bel_then HB.out hb)
      replace HE : Hd (Env X2 [⟨w.heap.size, 24, [.int .i64 Wd, .int .i64 Ht, .slice (some ad) xs.length k]⟩, ⟨w.heap.size + 1, 95, [.int .i64 ((lin g T).a), .int .i64 ((lin g T).b), .int .i64 ((lin g T).c), .int .i64 ((lin g T).d)]⟩]) := ⟨HE.out.to hb⟩
      have HLS := HL0
      have e16 : vs 16 = .int .i64 n := hv 0 (by decide) rfl
      have e17 : vs 17 = .int .i64 0 := hv 1 (by decide) rfl
      simp only [putAll, List.foldl_cons, List.foldl_nil, Act.put, List.setIfInBounds_toArray, List.set_cons_succ, List.set_cons_zero, List.drop_succ_cons, List.drop_zero, e16, e17]
      clear hv hal hne hb HL0 HBW HLS e16 e17
      go_wp2_with fail
      go_loopw [17] (fun sx wr => ∃ x : Nat, (x : Int) ≤ n ∧ sx = .int .i64 (x : Int) ∧ (Env wr [⟨w.heap.size, 24, [.int .i64 Wd, .int .i64 Ht, .slice (some ad) xs.length k]⟩, ⟨w.heap.size + 1, 95, [.int .i64 ((lin g T).a), .int .i64 ((lin g T).b), .int .i64 ((lin g T).c), .int .i64 ((lin g T).d)]⟩] ∧ Below w.heap.size w wr) ∧ SymR (colF Wd Ht xs) g T a b n x 0) (fun sx _ => n.toNat - (intOf sx).toNat)
      case atStart => exact ⟨0, by omega, rfl, ⟨HE.out, HB.out⟩, SymR.start⟩
      case round =>
        obtain ⟨x, hxn, rfl, ⟨he, hb⟩, hs⟩ := hrel
        clear HB HE
        have HB := Hd.mk hb
        have HE : Hd (Env wr [⟨w.heap.size, 24, [.int .i64 Wd, .int .i64 Ht, .slice (some ad) xs.length k]⟩, ⟨w.heap.size + 1, 95, [.int .i64 ((lin g T).a), .int .i64 ((lin g T).b), .int .i64 ((lin g T).c), .int .i64 ((lin g T).d)]⟩]) := ⟨he⟩
        clear he hb
        have HS := Hd.mk hs
        clear hs
        by_cases hx : (x : Int) < n
        · skip
          go_upto_region 4 with fail
          refine wp_region_vd 1 [19] [0] [] 84 [.int .i64 0, .int .i64 0] [isV (.int .i64 (((x : Nat) : Int)))] (by rfl) alloc_Z ?_ ?_
          · intro qi qh qA aa wx hb hs hd
            match qi, qh, qA with
            | 0, _, _ => exact .inl ⟨rfl, op_mv rfl (hs 17 rfl)⟩
            | qi + 1, h, _ => omega
          · intro vs X1 hb hv hal hne
            have HL0 := Hd.mk (HE.out.lt)
            have HBW := HB
            replace HB := Hd.mk (bel_then HB.out hb)
            replace HE : Hd (Env X1 [⟨w.heap.size, 24, [.int .i64 Wd, .int .i64 Ht, .slice (some ad) xs.length k]⟩, ⟨w.heap.size + 1, 95, [.int .i64 ((lin g T).a), .int .i64 ((lin g T).b), .int .i64 ((lin g T).c), .int .i64 ((lin g T).d)]⟩]) := ⟨HE.out.to hb⟩
            have HLS := HL0
            have e19 : vs 19 = .int .i64 (((x : Nat) : Int)) := hv 0 (by decide) rfl
            simp only [putAll, List.foldl_cons, List.foldl_nil, Act.put, List.setIfInBounds_toArray, List.set_cons_succ, List.set_cons_zero, List.drop_succ_cons, List.drop_zero, e19]
            clear hv hal hne hb HL0 HBW HLS e19
            go_upto_region 5 with fail
            refine wp_region_vd 2 [20, 21] [0, 1] [] 84 [.int .i64 0, .int .i64 0] [isV (.int .i64 n), isV (.int .i64 0)] (by rfl) alloc_Z ?_ ?_
            · intro qi qh qA aa wx hb hs hd
              match qi, qh, qA with
              | 0, _, _ => exact .inl ⟨rfl, op_mv rfl (hs 9 rfl)⟩
              | 1, _, _ => exact .inl ⟨rfl, op_mv rfl rfl⟩
              | qi + 2, h, _ => omega
            · intro vs X2 hb hv hal hne
              have HL0 := Hd.mk (HE.out.lt)
              have HBW := HB
              replace HB := Hd.mk (bel_then HB.out hb)
              replace HE : Hd (Env X2 [⟨w.heap.size, 24, [.int .i64 Wd, .int .i64 Ht, .slice (some ad) xs.length k]⟩, ⟨w.heap.size + 1, 95, [.int .i64 ((lin g T).a), .int .i64 ((lin g T).b), .int .i64 ((lin g T).c), .int .i64 ((lin g T).d)]⟩]) := ⟨HE.out.to hb⟩
              have HLS := HL0
              have e20 : vs 20 = .int .i64 n := hv 0 (by decide) rfl
              have e21 : vs 21 = .int .i64 0 := hv 1 (by decide) rfl
              simp only [putAll, List.foldl_cons, List.foldl_nil, Act.put, List.setIfInBounds_toArray, List.set_cons_succ, List.set_cons_zero, List.drop_succ_cons, List.drop_zero, e20, e21]
              clear hv hal hne hb HL0 HBW HLS e20 e21
              go_wp2_with fail
              go_loopw [21] (fun sy wr => ∃ y : Nat, (y : Int) ≤ n ∧ sy = .int .i64 (y : Int) ∧ (Env wr [⟨w.heap.size, 24, [.int .i64 Wd, .int .i64 Ht, .slice (some ad) xs.length k]⟩, ⟨w.heap.size + 1, 95, [.int .i64 ((lin g T).a), .int .i64 ((lin g T).b), .int .i64 ((lin g T).c), .int .i64 ((lin g T).d)]⟩] ∧ Below w.heap.size w wr) ∧ SymR (colF Wd Ht xs) g T a b n x y) (fun sy _ => n.toNat - (intOf sy).toNat)
              case atStart => exact ⟨0, by omega, rfl, ⟨HE.out, HB.out⟩, HS.out⟩
              case round =>
                obtain ⟨y, hyn, rfl, ⟨he, hb⟩, hs⟩ := hrel
                clear HB HE
                have HB := Hd.mk hb
                have HE : Hd (Env wr [⟨w.heap.size, 24, [.int .i64 Wd, .int .i64 Ht, .slice (some ad) xs.length k]⟩, ⟨w.heap.size + 1, 95, [.int .i64 ((lin g T).a), .int .i64 ((lin g T).b), .int .i64 ((lin g T).c), .int .i64 ((lin g T).d)]⟩]) := ⟨he⟩
                clear he hb
                replace HS := Hd.mk hs
                clear hs
                by_cases hy : (y : Int) < n
                · skip
                  go_upto_region 7 with fail
                  refine wp_region_vd 1 [23] [0] [] 84 [.int .i64 0, .int .i64 0] [isV (.int .i64 (((y : Nat) : Int)))] (by rfl) alloc_Z ?_ ?_
                  · intro qi qh qA aa wx hb hs hd
                    match qi, qh, qA with
                    | 0, _, _ => exact .inl ⟨rfl, op_mv rfl (hs 21 rfl)⟩
                    | qi + 1, h, _ => omega
                  · intro vs X1 hb hv hal hne
                    have HL0 := Hd.mk (HE.out.lt)
                    have HBW := HB
                    replace HB := Hd.mk (bel_then HB.out hb)
                    replace HE : Hd (Env X1 [⟨w.heap.size, 24, [.int .i64 Wd, .int .i64 Ht, .slice (some ad) xs.length k]⟩, ⟨w.heap.size + 1, 95, [.int .i64 ((lin g T).a), .int .i64 ((lin g T).b), .int .i64 ((lin g T).c), .int .i64 ((lin g T).d)]⟩]) := ⟨HE.out.to hb⟩
                    have HLS := HL0
                    have e23 : vs 23 = .int .i64 (((y : Nat) : Int)) := hv 0 (by decide) rfl
                    simp only [putAll, List.foldl_cons, List.foldl_nil, Act.put, List.setIfInBounds_toArray, List.set_cons_succ, List.set_cons_zero, List.drop_succ_cons, List.drop_zero, e23]
                    clear hv hal hne hb HL0 HBW HLS e23
                    obtain ⟨tb1, tb2⟩ := trn_bound g (x := (x : Int)) (y := (y : Int)) (b := 30) (by omega) (by omega) T
                    go_upto_region 8 with fail
                    refine wp_region_vd 7 [25, 26, 27, 28, 24, 29, 30] [1, 2, 4, 5, 6] [] 84 [.int .i64 0, .int .i64 0] [isV (.agg #[.int .i64 ((lin g T).a), .int .i64 ((lin g T).b), .int .i64 ((lin g T).c), .int .i64 ((lin g T).d)]), isV (.int .i64 (((x : Nat) : Int))), isV (.int .i64 (((y : Nat) : Int))), isP (isV (.int .i64 ((trn g (((x : Nat) : Int)) (((y : Nat) : Int)) T).1))) (isV (.int .i64 ((trn g (((x : Nat) : Int)) (((y : Nat) : Int)) T).2))), isP (isV (.int .i64 ((trn g (((x : Nat) : Int)) (((y : Nat) : Int)) T).1))) (isV (.int .i64 ((trn g (((x : Nat) : Int)) (((y : Nat) : Int)) T).2))), isV (.int .i64 ((trn g (((x : Nat) : Int)) (((y : Nat) : Int)) T).1)), isV (.int .i64 ((trn g (((x : Nat) : Int)) (((y : Nat) : Int)) T).2))] (by rfl) alloc_Z ?_ ?_
                    · intro qi qh qA aa wx hb hs hd
                      match qi, qh, qA with
                      | 0, _, _ => exact .inl ⟨rfl, op_ldL rfl rfl (hs 5 rfl) ((HE.out.to hb).get 1 rfl)⟩
                      | 1, _, _ => exact .inl ⟨rfl, op_mv rfl (hs 10 rfl)⟩
                      | 2, _, _ => exact .inl ⟨rfl, op_mv rfl (hs 11 rfl)⟩
                      | 3, _, _ => exact .inl ⟨rfl, op_call3 rfl rfl Try.call61 (by rw [(show aa.eval (.tmp 25) = .agg #[.int .i64 ((lin g T).a), .int .i64 ((lin g T).b), .int .i64 ((lin g T).c), .int .i64 ((lin g T).d)] from (hd 0 rfl)), (show aa.eval (.tmp 26) = .int .i64 (((x : Nat) : Int)) from (hd 1 rfl)), (show aa.eval (.tmp 27) = .int .i64 (((y : Nat) : Int)) from (hd 2 rfl))]; exact lto_trn g T (((x : Nat) : Int)) (((y : Nat) : Int)) (by omega) (by omega) _)⟩
                      | 4, _, _ => exact .inl ⟨rfl, op_mv rfl (hd 3 rfl)⟩
                      | 5, _, _ => exact .inl ⟨rfl, op_fst rfl (hd 4 rfl)⟩
                      | 6, _, _ => exact .inl ⟨rfl, op_snd rfl (hd 4 rfl)⟩
                      | qi + 7, h, _ => omega
                    · intro vs X2 hb hv hal hne
                      have HL0 := Hd.mk (HE.out.lt)
                      have HBW := HB
                      replace HB := Hd.mk (bel_then HB.out hb)
                      replace HE : Hd (Env X2 [⟨w.heap.size, 24, [.int .i64 Wd, .int .i64 Ht, .slice (some ad) xs.length k]⟩, ⟨w.heap.size + 1, 95, [.int .i64 ((lin g T).a), .int .i64 ((lin g T).b), .int .i64 ((lin g T).c), .int .i64 ((lin g T).d)]⟩]) := ⟨HE.out.to hb⟩
                      have HLS := HL0
                      have e29 : vs 29 = .int .i64 ((trn g (((x : Nat) : Int)) (((y : Nat) : Int)) T).1) := hv 5 (by decide) rfl
                      have e30 : vs 30 = .int .i64 ((trn g (((x : Nat) : Int)) (((y : Nat) : Int)) T).2) := hv 6 (by decide) rfl
                      simp only [putAll, List.foldl_cons, List.foldl_nil, Act.put, List.setIfInBounds_toArray, List.set_cons_succ, List.set_cons_zero, List.drop_succ_cons, List.drop_zero, e29, e30]
                      generalize vs 25 = s25
                      generalize vs 26 = s26
                      generalize vs 27 = s27
                      generalize vs 28 = s28
                      generalize vs 24 = s24
                      clear hv hal hne hb HL0 HBW HLS e29 e30
                      by_cases heq : colF Wd Ht xs ((trn g (x : Int) (y : Int) T).1 + a) ((trn g (x : Int) (y : Int) T).2 + b) = colF Wd Ht xs (x : Int) (y : Int)
                      · have HEQ := Hd.mk heq
                        clear heq
                        go_upto_region 9 with fail
                        refine wp_region_vs 13 [31, 32, 33, 34, 35, 36, 37, 38, 39, 40, 41, 42, 43] [1, 2, 3, 4, 5, 6, 9, 10, 12] [] 84 [.int .i64 0, .int .i64 0] [isV (.agg #[.int .i64 Wd, .int .i64 Ht, .slice (some ad) xs.length k]), isV (.int .i64 ((trn g (((x : Nat) : Int)) (((y : Nat) : Int)) T).1)), isV (.int .i64 a), isV (.int .i64 (((trn g (((x : Nat) : Int)) (((y : Nat) : Int)) T).1) + a)), isV (.int .i64 ((trn g (((x : Nat) : Int)) (((y : Nat) : Int)) T).2)), isV (.int .i64 b), isV (.int .i64 (((trn g (((x : Nat) : Int)) (((y : Nat) : Int)) T).2) + b)), isV (.int .i64 (colF Wd Ht xs (((trn g (((x : Nat) : Int)) (((y : Nat) : Int)) T).1) + a) (((trn g (((x : Nat) : Int)) (((y : Nat) : Int)) T).2) + b))), isV (.agg #[.int .i64 Wd, .int .i64 Ht, .slice (some ad) xs.length k]), isV (.int .i64 (((x : Nat) : Int))), isV (.int .i64 (((y : Nat) : Int))), isV (.int .i64 (colF Wd Ht xs (((x : Nat) : Int)) (((y : Nat) : Int)))), isV (.bool false)] (by kernel_rfl) (by kernel_rfl) (by kernel_rfl) (by rfl) alloc_Z (fun d v c a w h => by cases d <;> exact h) ?_ ?_
                        · intro qi qh qA aa wx hb hs hd
                          match qi, qh, qA with
                          | 0, _, _ => exact op_ldU rfl rfl (hs 4 rfl) ((HE.out.to hb).get 0 rfl)
                          | 1, _, _ => exact op_mv rfl (hs 12 rfl)
                          | 2, _, _ => exact op_mv rfl (hs 2 rfl)
                          | 3, _, _ => exact ⟨_, op_add (by unfold Fit; omega) rfl (hd 1 rfl) (hd 2 rfl), rfl⟩
                          | 4, _, _ => exact op_mv rfl (hs 13 rfl)
                          | 5, _, _ => exact op_mv rfl (hs 3 rfl)
                          | 6, _, _ => exact ⟨_, op_add (by unfold Fit; omega) rfl (hd 4 rfl) (hd 5 rfl), rfl⟩
                          | 7, _, _ => exact op_call3 rfl rfl Try.call96 (by rw [(show aa.eval (.tmp 31) = .agg #[.int .i64 Wd, .int .i64 Ht, .slice (some ad) xs.length k] from (hd 0 rfl)), (show aa.eval (.tmp 34) = .int .i64 (((trn g (((x : Nat) : Int)) (((y : Nat) : Int)) T).1) + a) from (hd 3 rfl)), (show aa.eval (.tmp 37) = .int .i64 (((trn g (((x : Nat) : Int)) (((y : Nat) : Int)) T).2) + b) from (hd 6 rfl))]; exact colour_got Wd Ht ad k xs (((trn g (((x : Nat) : Int)) (((y : Nat) : Int)) T).1) + a) (((trn g (((x : Nat) : Int)) (((y : Nat) : Int)) T).2) + b) HW.out HH.out (by omega) (by omega) _ (HRI.out.to (bel_then HB.out hb)) HL.out)
                          | 8, _, _ => exact op_ldU rfl rfl (hs 4 rfl) ((HE.out.to hb).get 0 rfl)
                          | 9, _, _ => exact op_mv rfl (hs 10 rfl)
                          | 10, _, _ => exact op_mv rfl (hs 11 rfl)
                          | 11, _, _ => exact op_call3 rfl rfl Try.call96 (by rw [(show aa.eval (.tmp 39) = .agg #[.int .i64 Wd, .int .i64 Ht, .slice (some ad) xs.length k] from (hd 8 rfl)), (show aa.eval (.tmp 40) = .int .i64 (((x : Nat) : Int)) from (hd 9 rfl)), (show aa.eval (.tmp 41) = .int .i64 (((y : Nat) : Int)) from (hd 10 rfl))]; exact colour_got Wd Ht ad k xs (((x : Nat) : Int)) (((y : Nat) : Int)) HW.out HH.out (by omega) (by omega) _ (HRI.out.to (bel_then HB.out hb)) HL.out)
                          | 12, _, _ => exact pure_b (bool_eq (by rw [decide_eq_true HEQ.out]; rfl)) (⟨_, op_neqI rfl (hd 7 rfl) (hd 11 rfl), rfl⟩)
                          | qi + 13, h, _ => omega
                        · intro vs X3 hb hv hal hne
                          have HL0 := Hd.mk (HE.out.lt)
                          have HBW := HB
                          replace HB := Hd.mk (bel_then HB.out hb)
                          replace HE : Hd (Env X3 [⟨w.heap.size, 24, [.int .i64 Wd, .int .i64 Ht, .slice (some ad) xs.length k]⟩, ⟨w.heap.size + 1, 95, [.int .i64 ((lin g T).a), .int .i64 ((lin g T).b), .int .i64 ((lin g T).c), .int .i64 ((lin g T).d)]⟩]) := ⟨HE.out.to hb⟩
                          have HLS := HL0
                          have e43 : vs 43 = .bool false := hv 12 (by decide) rfl
                          simp only [putAll, List.foldl_cons, List.foldl_nil, Act.put, List.setIfInBounds_toArray, List.set_cons_succ, List.set_cons_zero, List.drop_succ_cons, List.drop_zero, e43]
                          generalize vs 31 = s31
                          generalize vs 32 = s32
                          generalize vs 33 = s33
                          generalize vs 34 = s34
                          generalize vs 35 = s35
                          generalize vs 36 = s36
                          generalize vs 37 = s37
                          generalize vs 38 = s38
                          generalize vs 39 = s39
                          generalize vs 40 = s40
                          generalize vs 41 = s41
                          generalize vs 42 = s42
                          clear hv hal hne hb HL0 HBW HLS e43
                          go_wp2_with fail
                          go_roundw
                          case rel => exact ⟨y + 1, by omega, by go_num, ⟨HE.out, HB.out⟩, HS.out.cell HEQ.out⟩
                          case measure => simp [intOf]; omega
                      · have HEQ := Hd.mk heq
                        clear heq
                        go_upto_region 9 with fail
                        refine wp_region_vs 13 [31, 32, 33, 34, 35, 36, 37, 38, 39, 40, 41, 42, 43] [1, 2, 3, 4, 5, 6, 9, 10, 12] [] 84 [.int .i64 0, .int .i64 0] [isV (.agg #[.int .i64 Wd, .int .i64 Ht, .slice (some ad) xs.length k]), isV (.int .i64 ((trn g (((x : Nat) : Int)) (((y : Nat) : Int)) T).1)), isV (.int .i64 a), isV (.int .i64 (((trn g (((x : Nat) : Int)) (((y : Nat) : Int)) T).1) + a)), isV (.int .i64 ((trn g (((x : Nat) : Int)) (((y : Nat) : Int)) T).2)), isV (.int .i64 b), isV (.int .i64 (((trn g (((x : Nat) : Int)) (((y : Nat) : Int)) T).2) + b)), isV (.int .i64 (colF Wd Ht xs (((trn g (((x : Nat) : Int)) (((y : Nat) : Int)) T).1) + a) (((trn g (((x : Nat) : Int)) (((y : Nat) : Int)) T).2) + b))), isV (.agg #[.int .i64 Wd, .int .i64 Ht, .slice (some ad) xs.length k]), isV (.int .i64 (((x : Nat) : Int))), isV (.int .i64 (((y : Nat) : Int))), isV (.int .i64 (colF Wd Ht xs (((x : Nat) : Int)) (((y : Nat) : Int)))), isV (.bool true)] (by kernel_rfl) (by kernel_rfl) (by kernel_rfl) (by rfl) alloc_Z (fun d v c a w h => by cases d <;> exact h) ?_ ?_
                        · intro qi qh qA aa wx hb hs hd
                          match qi, qh, qA with
                          | 0, _, _ => exact op_ldU rfl rfl (hs 4 rfl) ((HE.out.to hb).get 0 rfl)
                          | 1, _, _ => exact op_mv rfl (hs 12 rfl)
                          | 2, _, _ => exact op_mv rfl (hs 2 rfl)
                          | 3, _, _ => exact ⟨_, op_add (by unfold Fit; omega) rfl (hd 1 rfl) (hd 2 rfl), rfl⟩
                          | 4, _, _ => exact op_mv rfl (hs 13 rfl)
                          | 5, _, _ => exact op_mv rfl (hs 3 rfl)
                          | 6, _, _ => exact ⟨_, op_add (by unfold Fit; omega) rfl (hd 4 rfl) (hd 5 rfl), rfl⟩
                          | 7, _, _ => exact op_call3 rfl rfl Try.call96 (by rw [(show aa.eval (.tmp 31) = .agg #[.int .i64 Wd, .int .i64 Ht, .slice (some ad) xs.length k] from (hd 0 rfl)), (show aa.eval (.tmp 34) = .int .i64 (((trn g (((x : Nat) : Int)) (((y : Nat) : Int)) T).1) + a) from (hd 3 rfl)), (show aa.eval (.tmp 37) = .int .i64 (((trn g (((x : Nat) : Int)) (((y : Nat) : Int)) T).2) + b) from (hd 6 rfl))]; exact colour_got Wd Ht ad k xs (((trn g (((x : Nat) : Int)) (((y : Nat) : Int)) T).1) + a) (((trn g (((x : Nat) : Int)) (((y : Nat) : Int)) T).2) + b) HW.out HH.out (by omega) (by omega) _ (HRI.out.to (bel_then HB.out hb)) HL.out)
                          | 8, _, _ => exact op_ldU rfl rfl (hs 4 rfl) ((HE.out.to hb).get 0 rfl)
                          | 9, _, _ => exact op_mv rfl (hs 10 rfl)
                          | 10, _, _ => exact op_mv rfl (hs 11 rfl)
                          | 11, _, _ => exact op_call3 rfl rfl Try.call96 (by rw [(show aa.eval (.tmp 39) = .agg #[.int .i64 Wd, .int .i64 Ht, .slice (some ad) xs.length k] from (hd 8 rfl)), (show aa.eval (.tmp 40) = .int .i64 (((x : Nat) : Int)) from (hd 9 rfl)), (show aa.eval (.tmp 41) = .int .i64 (((y : Nat) : Int)) from (hd 10 rfl))]; exact colour_got Wd Ht ad k xs (((x : Nat) : Int)) (((y : Nat) : Int)) HW.out HH.out (by omega) (by omega) _ (HRI.out.to (bel_then HB.out hb)) HL.out)
                          | 12, _, _ => exact pure_b (bool_eq (by rw [decide_eq_false HEQ.out]; rfl)) (⟨_, op_neqI rfl (hd 7 rfl) (hd 11 rfl), rfl⟩)
                          | qi + 13, h, _ => omega
                        · intro vs X3 hb hv hal hne
                          have HL0 := Hd.mk (HE.out.lt)
                          have HBW := HB
                          replace HB := Hd.mk (bel_then HB.out hb)
                          replace HE : Hd (Env X3 [⟨w.heap.size, 24, [.int .i64 Wd, .int .i64 Ht, .slice (some ad) xs.length k]⟩, ⟨w.heap.size + 1, 95, [.int .i64 ((lin g T).a), .int .i64 ((lin g T).b), .int .i64 ((lin g T).c), .int .i64 ((lin g T).d)]⟩]) := ⟨HE.out.to hb⟩
                          have HLS := HL0
                          have e43 : vs 43 = .bool true := hv 12 (by decide) rfl
                          simp only [putAll, List.foldl_cons, List.foldl_nil, Act.put, List.setIfInBounds_toArray, List.set_cons_succ, List.set_cons_zero, List.drop_succ_cons, List.drop_zero, e43]
                          generalize vs 31 = s31
                          generalize vs 32 = s32
                          generalize vs 33 = s33
                          generalize vs 34 = s34
                          generalize vs 35 = s35
                          generalize vs 36 = s36
                          generalize vs 37 = s37
                          generalize vs 38 = s38
                          generalize vs 39 = s39
                          generalize vs 40 = s40
                          generalize vs 41 = s41
                          generalize vs 42 = s42
                          clear hv hal hne hb HL0 HBW HLS e43
                          go_upto_region 10 with fail
                          refine wp_region_vd 0 [] [] [] 84 [.int .i64 0, .int .i64 0] [] (by rfl) alloc_Z ?_ ?_
                          · intro qi qh qA aa wx hb hs hd
                            match qi, qh, qA with
                            | qi + 0, h, _ => omega
                          · intro vs X4 hb hv hal hne
                            have HL0 := Hd.mk (HE.out.lt)
                            have HBW := HB
                            replace HB := Hd.mk (bel_then HB.out hb)
                            replace HE : Hd (Env X4 [⟨w.heap.size, 24, [.int .i64 Wd, .int .i64 Ht, .slice (some ad) xs.length k]⟩, ⟨w.heap.size + 1, 95, [.int .i64 ((lin g T).a), .int .i64 ((lin g T).b), .int .i64 ((lin g T).c), .int .i64 ((lin g T).d)]⟩]) := ⟨HE.out.to hb⟩
                            have HLS := HL0
                            simp only [putAll, List.foldl_cons, List.foldl_nil, Act.put, List.setIfInBounds_toArray, List.set_cons_succ, List.set_cons_zero, List.drop_succ_cons, List.drop_zero]
                            clear hv hal hne hb HL0 HBW HLS
                            go_wp2_with fail
                            go_ret
                            exact ⟨_, rfl, HB.out, by show Value.bool _ = _; rw [bP_false.2 (not_sym HEQ.out)]⟩
                · skip
                  go_wp2_with fail
                  go_roundw
                  case rel => exact ⟨x + 1, by omega, by go_num, ⟨HE.out, HB.out⟩, HS.out.row (by omega)⟩
                  case measure => simp [intOf]; omega
        · skip
          go_upto_region 13 with fail
          refine wp_region_vd 0 [] [] [] 84 [.int .i64 0, .int .i64 0] [] (by rfl) alloc_Z ?_ ?_
          · intro qi qh qA aa wx hb hs hd
            match qi, qh, qA with
            | qi + 0, h, _ => omega
          · intro vs X1 hb hv hal hne
            have HL0 := Hd.mk (HE.out.lt)
            have HBW := HB
            replace HB := Hd.mk (bel_then HB.out hb)
            replace HE : Hd (Env X1 [⟨w.heap.size, 24, [.int .i64 Wd, .int .i64 Ht, .slice (some ad) xs.length k]⟩, ⟨w.heap.size + 1, 95, [.int .i64 ((lin g T).a), .int .i64 ((lin g T).b), .int .i64 ((lin g T).c), .int .i64 ((lin g T).d)]⟩]) := ⟨HE.out.to hb⟩
            have HLS := HL0
            simp only [putAll, List.foldl_cons, List.foldl_nil, Act.put, List.setIfInBounds_toArray, List.set_cons_succ, List.set_cons_zero, List.drop_succ_cons, List.drop_zero]
            clear hv hal hne hb HL0 HBW HLS
            go_wp2_with fail
            go_ret
            exact ⟨_, rfl, HB.out, by show Value.bool _ = _; rw [bP_true.2 ((sym_iff hn1.1 HPER.out).1 (HS.out.all (by omega)))]⟩
set_option maxRecDepth 100000 in
set_option maxHeartbeats 1000000 in
theorem rsome_got (Wd Ht : Int) (ad : Addr) (k : Nat) (xs : List Int) (g : Bool) (T : Nat) (hW : 1 ≤ Wd ∧ Wd ≤ 6) (hH : 1 ≤ Ht ∧ Ht ≤ 6) (w : World) (hri : RI w (some ad) xs) (hl : (xs.length : Int) = Wd * Ht) (hT : T < 4) :
    Calls Try.prog 68 #[.agg #[.int .i64 Wd, .int .i64 Ht, .slice (some ad) xs.length k], .agg #[.int .i64 ((lin g T).a), .int .i64 ((lin g T).b), .int .i64 ((lin g T).c), .int .i64 ((lin g T).d)]] w (Got w (isV (.bool (bP (Ex (colF Wd Ht xs) g T)))).p) := by
  have HL := Hd.mk hl
  have HT4 := Hd.mk hT
  have HRI := Hd.mk hri
  clear hri
  have HW := Hd.mk hW
  have HH := Hd.mk hH
  have hwh := mul_b (a := Wd) (b := Ht) (A := 6) (B := 6) (by omega) (by omega)
  have hpn := perN_eq hW hH
  have HPER := Hd.mk (per_of (xs := xs) hpn.2.1 hpn.2.2)
  obtain ⟨n, hn⟩ : ∃ n, n = perN Wd Ht := ⟨_, rfl⟩
  rw [← hn] at hpn HPER
  have HN : Hd (perN Wd Ht = n) := ⟨hn.symm⟩
  obtain ⟨hn1, hn2, hn3⟩ := hpn
  clear hn hn2 hn3
  go_enter Try.func68, Try.ntmps68
  go_upto_region 1 with fail
  obtain ⟨W0, hW0⟩ : ∃ W : World, W = (w.alloc (.cells #[.int .i64 Wd, .int .i64 Ht, .slice (some ad) xs.length k] 24)).alloc (.cells #[.int .i64 ((lin g T).a), .int .i64 ((lin g T).b), .int .i64 ((lin g T).c), .int .i64 ((lin g T).d)] 95) := ⟨_, rfl⟩
  rw [← hW0]
  obtain ⟨he, hb⟩ := env_two hW0
  have HE := Hd.mk he
  have HB := Hd.mk hb
  clear he hb hW0
  refine wp_region_vd 2 [8, 9] [] [] 84 [.int .i64 0, .int .i64 0] [isV (.agg #[.int .i64 Wd, .int .i64 Ht, .slice (some ad) xs.length k]), isV (.int .i64 n)] (by rfl) alloc_Z ?_ ?_
  · intro qi qh qA aa wx hb hs hd
    match qi, qh, qA with
    | 0, _, _ => exact .inl ⟨rfl, op_ldU rfl rfl (hs 2 rfl) ((HE.out.to hb).get 0 rfl)⟩
    | 1, _, _ => exact .inl ⟨rfl, wp_b (int_eq HN.out) (op_call1 rfl rfl Try.call85 (by rw [(show aa.eval (.tmp 8) = .agg #[.int .i64 Wd, .int .i64 Ht, .slice (some ad) xs.length k] from (hd 0 rfl))]; exact period_got Wd Ht (some ad) k xs HW.out HH.out _))⟩
    | qi + 2, h, _ => omega
  · intro vs X1 hb hv hal hne
    have HL0 := Hd.mk (HE.out.lt)
    have HBW := HB
    replace HB := Hd.mk (bel_then HB.out hb)
    replace HE : Hd (Env X1 [⟨w.heap.size, 24, [.int .i64 Wd, .int .i64 Ht, .slice (some ad) xs.length k]⟩, ⟨w.heap.size + 1, 95, [.int .i64 ((lin g T).a), .int .i64 ((lin g T).b), .int .i64 ((lin g T).c), .int .i64 ((lin g T).d)]⟩]) := ⟨HE.out.to hb⟩
    have HLS := HL0
    have e9 : vs 9 = .int .i64 n := hv 1 (by decide) rfl
    simp only [putAll, List.foldl_cons, List.foldl_nil, Act.put, List.setIfInBounds_toArray, List.set_cons_succ, List.set_cons_zero, List.drop_succ_cons, List.drop_zero, e9]
    generalize vs 8 = s8
    clear hv hal hne hb HL0 HBW HLS e9
    go_upto_region 2 with fail
    refine wp_region_vd 2 [10, 11] [0, 1] [] 84 [.int .i64 0, .int .i64 0] [isV (.int .i64 n), isV (.int .i64 0)] (by rfl) alloc_Z ?_ ?_
    · intro qi qh qA aa wx hb hs hd
      match qi, qh, qA with
      | 0, _, _ => exact .inl ⟨rfl, op_mv rfl (hs 5 rfl)⟩
      | 1, _, _ => exact .inl ⟨rfl, op_mv rfl rfl⟩
      | qi + 2, h, _ => omega
    · intro vs X2 hb hv hal hne
      have HL0 := Hd.mk (HE.out.lt)
      have HBW := HB
      replace HB := Hd.mk (bel_then HB.out hb)
      replace HE : Hd (Env X2 [⟨w.heap.size, 24, [.int .i64 Wd, .int .i64 Ht, .slice (some ad) xs.length k]⟩, ⟨w.heap.size + 1, 95, [.int .i64 ((lin g T).a), .int .i64 ((lin g T).b), .int .i64 ((lin g T).c), .int .i64 ((lin g T).d)]⟩]) := ⟨HE.out.to hb⟩
      have HLS := HL0
      have e10 : vs 10 = .int .i64 n := hv 0 (by decide) rfl
      have e11 : vs 11 = .int .i64 0 := hv 1 (by decide) rfl
      simp only [putAll, List.foldl_cons, List.foldl_nil, Act.put, List.setIfInBounds_toArray, List.set_cons_succ, List.set_cons_zero, List.drop_succ_cons, List.drop_zero, e10, e11]
      clear hv hal hne hb HL0 HBW HLS e10 e11
      go_wp2_with fail
      go_loopw [11] (fun sx wr => ∃ x : Nat, (x : Int) ≤ n ∧ sx = .int .i64 (x : Int) ∧ (Env wr [⟨w.heap.size, 24, [.int .i64 Wd, .int .i64 Ht, .slice (some ad) xs.length k]⟩, ⟨w.heap.size + 1, 95, [.int .i64 ((lin g T).a), .int .i64 ((lin g T).b), .int .i64 ((lin g T).c), .int .i64 ((lin g T).d)]⟩] ∧ Below w.heap.size w wr) ∧ NoR (colF Wd Ht xs) g T n x 0) (fun sx _ => n.toNat - (intOf sx).toNat)
      case atStart => exact ⟨0, by omega, rfl, ⟨HE.out, HB.out⟩, NoR.start⟩
      case round =>
        obtain ⟨x, hxn, rfl, ⟨he, hb⟩, hs⟩ := hrel
        clear HB HE
        have HB := Hd.mk hb
        have HE : Hd (Env wr [⟨w.heap.size, 24, [.int .i64 Wd, .int .i64 Ht, .slice (some ad) xs.length k]⟩, ⟨w.heap.size + 1, 95, [.int .i64 ((lin g T).a), .int .i64 ((lin g T).b), .int .i64 ((lin g T).c), .int .i64 ((lin g T).d)]⟩]) := ⟨he⟩
        clear he hb
        have HS := Hd.mk hs
        clear hs
        by_cases hx : (x : Int) < n
        · skip
          go_upto_region 4 with fail
          refine wp_region_vd 1 [13] [0] [] 84 [.int .i64 0, .int .i64 0] [isV (.int .i64 (((x : Nat) : Int)))] (by rfl) alloc_Z ?_ ?_
          · intro qi qh qA aa wx hb hs hd
            match qi, qh, qA with
            | 0, _, _ => exact .inl ⟨rfl, op_mv rfl (hs 11 rfl)⟩
            | qi + 1, h, _ => omega
          · intro vs X1 hb hv hal hne
            have HL0 := Hd.mk (HE.out.lt)
            have HBW := HB
            replace HB := Hd.mk (bel_then HB.out hb)
            replace HE : Hd (Env X1 [⟨w.heap.size, 24, [.int .i64 Wd, .int .i64 Ht, .slice (some ad) xs.length k]⟩, ⟨w.heap.size + 1, 95, [.int .i64 ((lin g T).a), .int .i64 ((lin g T).b), .int .i64 ((lin g T).c), .int .i64 ((lin g T).d)]⟩]) := ⟨HE.out.to hb⟩
            have HLS := HL0
            have e13 : vs 13 = .int .i64 (((x : Nat) : Int)) := hv 0 (by decide) rfl
            simp only [putAll, List.foldl_cons, List.foldl_nil, Act.put, List.setIfInBounds_toArray, List.set_cons_succ, List.set_cons_zero, List.drop_succ_cons, List.drop_zero, e13]
            clear hv hal hne hb HL0 HBW HLS e13
            go_upto_region 5 with fail
            refine wp_region_vd 2 [14, 15] [0, 1] [] 84 [.int .i64 0, .int .i64 0] [isV (.int .i64 n), isV (.int .i64 0)] (by rfl) alloc_Z ?_ ?_
            · intro qi qh qA aa wx hb hs hd
              match qi, qh, qA with
              | 0, _, _ => exact .inl ⟨rfl, op_mv rfl (hs 5 rfl)⟩
              | 1, _, _ => exact .inl ⟨rfl, op_mv rfl rfl⟩
              | qi + 2, h, _ => omega
            · intro vs X2 hb hv hal hne
              have HL0 := Hd.mk (HE.out.lt)
              have HBW := HB
              replace HB := Hd.mk (bel_then HB.out hb)
              replace HE : Hd (Env X2 [⟨w.heap.size, 24, [.int .i64 Wd, .int .i64 Ht, .slice (some ad) xs.length k]⟩, ⟨w.heap.size + 1, 95, [.int .i64 ((lin g T).a), .int .i64 ((lin g T).b), .int .i64 ((lin g T).c), .int .i64 ((lin g T).d)]⟩]) := ⟨HE.out.to hb⟩
              have HLS := HL0
              have e14 : vs 14 = .int .i64 n := hv 0 (by decide) rfl
              have e15 : vs 15 = .int .i64 0 := hv 1 (by decide) rfl
              simp only [putAll, List.foldl_cons, List.foldl_nil, Act.put, List.setIfInBounds_toArray, List.set_cons_succ, List.set_cons_zero, List.drop_succ_cons, List.drop_zero, e14, e15]
              clear hv hal hne hb HL0 HBW HLS e14 e15
              go_wp2_with fail
              go_loopw [15] (fun sy wr => ∃ y : Nat, (y : Int) ≤ n ∧ sy = .int .i64 (y : Int) ∧ (Env wr [⟨w.heap.size, 24, [.int .i64 Wd, .int .i64 Ht, .slice (some ad) xs.length k]⟩, ⟨w.heap.size + 1, 95, [.int .i64 ((lin g T).a), .int .i64 ((lin g T).b), .int .i64 ((lin g T).c), .int .i64 ((lin g T).d)]⟩] ∧ Below w.heap.size w wr) ∧ NoR (colF Wd Ht xs) g T n x y) (fun sy _ => n.toNat - (intOf sy).toNat)
              case atStart => exact ⟨0, by omega, rfl, ⟨HE.out, HB.out⟩, HS.out⟩
              case round =>
                obtain ⟨y, hyn, rfl, ⟨he, hb⟩, hs⟩ := hrel
                clear HB HE
                have HB := Hd.mk hb
                have HE : Hd (Env wr [⟨w.heap.size, 24, [.int .i64 Wd, .int .i64 Ht, .slice (some ad) xs.length k]⟩, ⟨w.heap.size + 1, 95, [.int .i64 ((lin g T).a), .int .i64 ((lin g T).b), .int .i64 ((lin g T).c), .int .i64 ((lin g T).d)]⟩]) := ⟨he⟩
                clear he hb
                replace HS := Hd.mk hs
                clear hs
                by_cases hy : (y : Int) < n
                · skip
                  go_upto_region 7 with fail
                  refine wp_region_vd 1 [17] [0] [] 84 [.int .i64 0, .int .i64 0] [isV (.int .i64 (((y : Nat) : Int)))] (by rfl) alloc_Z ?_ ?_
                  · intro qi qh qA aa wx hb hs hd
                    match qi, qh, qA with
                    | 0, _, _ => exact .inl ⟨rfl, op_mv rfl (hs 15 rfl)⟩
                    | qi + 1, h, _ => omega
                  · intro vs X1 hb hv hal hne
                    have HL0 := Hd.mk (HE.out.lt)
                    have HBW := HB
                    replace HB := Hd.mk (bel_then HB.out hb)
                    replace HE : Hd (Env X1 [⟨w.heap.size, 24, [.int .i64 Wd, .int .i64 Ht, .slice (some ad) xs.length k]⟩, ⟨w.heap.size + 1, 95, [.int .i64 ((lin g T).a), .int .i64 ((lin g T).b), .int .i64 ((lin g T).c), .int .i64 ((lin g T).d)]⟩]) := ⟨HE.out.to hb⟩
                    have HLS := HL0
                    have e17 : vs 17 = .int .i64 (((y : Nat) : Int)) := hv 0 (by decide) rfl
                    simp only [putAll, List.foldl_cons, List.foldl_nil, Act.put, List.setIfInBounds_toArray, List.set_cons_succ, List.set_cons_zero, List.drop_succ_cons, List.drop_zero, e17]
                    clear hv hal hne hb HL0 HBW HLS e17
                    by_cases heq : Sym (colF Wd Ht xs) g T (x : Int) (y : Int)
                    · have HEQ := Hd.mk heq
                      clear heq
                      go_upto_region 8 with fail
                      refine wp_region_vd 5 [18, 19, 20, 21, 22] [2, 3] [] 84 [.int .i64 0, .int .i64 0] [isV (.agg #[.int .i64 Wd, .int .i64 Ht, .slice (some ad) xs.length k]), isV (.agg #[.int .i64 ((lin g T).a), .int .i64 ((lin g T).b), .int .i64 ((lin g T).c), .int .i64 ((lin g T).d)]), isV (.int .i64 (((x : Nat) : Int))), isV (.int .i64 (((y : Nat) : Int))), isV (.bool true)] (by rfl) alloc_Z ?_ ?_
                      · intro qi qh qA aa wx hb hs hd
                        match qi, qh, qA with
                        | 0, _, _ => exact .inl ⟨rfl, op_ldU rfl rfl (hs 2 rfl) ((HE.out.to hb).get 0 rfl)⟩
                        | 1, _, _ => exact .inl ⟨rfl, op_ldL rfl rfl (hs 3 rfl) ((HE.out.to hb).get 1 rfl)⟩
                        | 2, _, _ => exact .inl ⟨rfl, op_mv rfl (hs 6 rfl)⟩
                        | 3, _, _ => exact .inl ⟨rfl, op_mv rfl (hs 7 rfl)⟩
                        | 4, _, _ => exact .inl ⟨rfl, wp_b (bool_eq (bP_true.2 HEQ.out)) (op_call4 rfl rfl Try.call86 (by rw [(show aa.eval (.tmp 18) = .agg #[.int .i64 Wd, .int .i64 Ht, .slice (some ad) xs.length k] from (hd 0 rfl)), (show aa.eval (.tmp 19) = .agg #[.int .i64 ((lin g T).a), .int .i64 ((lin g T).b), .int .i64 ((lin g T).c), .int .i64 ((lin g T).d)] from (hd 1 rfl)), (show aa.eval (.tmp 20) = .int .i64 (((x : Nat) : Int)) from (hd 2 rfl)), (show aa.eval (.tmp 21) = .int .i64 (((y : Nat) : Int)) from (hd 3 rfl))]; exact rkeeps_got Wd Ht ad k xs g T (((x : Nat) : Int)) (((y : Nat) : Int)) HW.out HH.out (by omega) (by omega) _ (HRI.out.to (bel_then HB.out hb)) HL.out HT4.out))⟩
                        | qi + 5, h, _ => omega
                      · intro vs X2 hb hv hal hne
                        have HL0 := Hd.mk (HE.out.lt)
                        have HBW := HB
                        replace HB := Hd.mk (bel_then HB.out hb)
                        replace HE : Hd (Env X2 [⟨w.heap.size, 24, [.int .i64 Wd, .int .i64 Ht, .slice (some ad) xs.length k]⟩, ⟨w.heap.size + 1, 95, [.int .i64 ((lin g T).a), .int .i64 ((lin g T).b), .int .i64 ((lin g T).c), .int .i64 ((lin g T).d)]⟩]) := ⟨HE.out.to hb⟩
                        have HLS := HL0
                        have e22 : vs 22 = .bool true := hv 4 (by decide) rfl
                        simp only [putAll, List.foldl_cons, List.foldl_nil, Act.put, List.setIfInBounds_toArray, List.set_cons_succ, List.set_cons_zero, List.drop_succ_cons, List.drop_zero, e22]
                        generalize vs 18 = s18
                        generalize vs 19 = s19
                        generalize vs 20 = s20
                        generalize vs 21 = s21
                        clear hv hal hne hb HL0 HBW HLS e22
                        go_upto_region 9 with fail
                        refine wp_region_vd 0 [] [] [] 84 [.int .i64 0, .int .i64 0] [] (by rfl) alloc_Z ?_ ?_
                        · intro qi qh qA aa wx hb hs hd
                          match qi, qh, qA with
                          | qi + 0, h, _ => omega
                        · intro vs X3 hb hv hal hne
                          have HL0 := Hd.mk (HE.out.lt)
                          have HBW := HB
                          replace HB := Hd.mk (bel_then HB.out hb)
                          replace HE : Hd (Env X3 [⟨w.heap.size, 24, [.int .i64 Wd, .int .i64 Ht, .slice (some ad) xs.length k]⟩, ⟨w.heap.size + 1, 95, [.int .i64 ((lin g T).a), .int .i64 ((lin g T).b), .int .i64 ((lin g T).c), .int .i64 ((lin g T).d)]⟩]) := ⟨HE.out.to hb⟩
                          have HLS := HL0
                          simp only [putAll, List.foldl_cons, List.foldl_nil, Act.put, List.setIfInBounds_toArray, List.set_cons_succ, List.set_cons_zero, List.drop_succ_cons, List.drop_zero]
                          clear hv hal hne hb HL0 HBW HLS
                          go_wp2_with fail
                          go_ret
                          exact ⟨_, rfl, HB.out, by show Value.bool _ = _; rw [bP_true.2 ⟨_, _, HEQ.out⟩]⟩
                    · have HEQ := Hd.mk heq
                      clear heq
                      go_upto_region 8 with fail
                      refine wp_region_vd 5 [18, 19, 20, 21, 22] [2, 3] [] 84 [.int .i64 0, .int .i64 0] [isV (.agg #[.int .i64 Wd, .int .i64 Ht, .slice (some ad) xs.length k]), isV (.agg #[.int .i64 ((lin g T).a), .int .i64 ((lin g T).b), .int .i64 ((lin g T).c), .int .i64 ((lin g T).d)]), isV (.int .i64 (((x : Nat) : Int))), isV (.int .i64 (((y : Nat) : Int))), isV (.bool false)] (by rfl) alloc_Z ?_ ?_
                      · intro qi qh qA aa wx hb hs hd
                        match qi, qh, qA with
                        | 0, _, _ => exact .inl ⟨rfl, op_ldU rfl rfl (hs 2 rfl) ((HE.out.to hb).get 0 rfl)⟩
                        | 1, _, _ => exact .inl ⟨rfl, op_ldL rfl rfl (hs 3 rfl) ((HE.out.to hb).get 1 rfl)⟩
                        | 2, _, _ => exact .inl ⟨rfl, op_mv rfl (hs 6 rfl)⟩
                        | 3, _, _ => exact .inl ⟨rfl, op_mv rfl (hs 7 rfl)⟩
                        | 4, _, _ => exact .inl ⟨rfl, wp_b (bool_eq (bP_false.2 HEQ.out)) (op_call4 rfl rfl Try.call86 (by rw [(show aa.eval (.tmp 18) = .agg #[.int .i64 Wd, .int .i64 Ht, .slice (some ad) xs.length k] from (hd 0 rfl)), (show aa.eval (.tmp 19) = .agg #[.int .i64 ((lin g T).a), .int .i64 ((lin g T).b), .int .i64 ((lin g T).c), .int .i64 ((lin g T).d)] from (hd 1 rfl)), (show aa.eval (.tmp 20) = .int .i64 (((x : Nat) : Int)) from (hd 2 rfl)), (show aa.eval (.tmp 21) = .int .i64 (((y : Nat) : Int)) from (hd 3 rfl))]; exact rkeeps_got Wd Ht ad k xs g T (((x : Nat) : Int)) (((y : Nat) : Int)) HW.out HH.out (by omega) (by omega) _ (HRI.out.to (bel_then HB.out hb)) HL.out HT4.out))⟩
                        | qi + 5, h, _ => omega
                      · intro vs X2 hb hv hal hne
                        have HL0 := Hd.mk (HE.out.lt)
                        have HBW := HB
                        replace HB := Hd.mk (bel_then HB.out hb)
                        replace HE : Hd (Env X2 [⟨w.heap.size, 24, [.int .i64 Wd, .int .i64 Ht, .slice (some ad) xs.length k]⟩, ⟨w.heap.size + 1, 95, [.int .i64 ((lin g T).a), .int .i64 ((lin g T).b), .int .i64 ((lin g T).c), .int .i64 ((lin g T).d)]⟩]) := ⟨HE.out.to hb⟩
                        have HLS := HL0
                        have e22 : vs 22 = .bool false := hv 4 (by decide) rfl
                        simp only [putAll, List.foldl_cons, List.foldl_nil, Act.put, List.setIfInBounds_toArray, List.set_cons_succ, List.set_cons_zero, List.drop_succ_cons, List.drop_zero, e22]
                        generalize vs 18 = s18
                        generalize vs 19 = s19
                        generalize vs 20 = s20
                        generalize vs 21 = s21
                        clear hv hal hne hb HL0 HBW HLS e22
                        go_wp2_with fail
                        go_roundw
                        case rel => exact ⟨y + 1, by omega, by go_num, ⟨HE.out, HB.out⟩, HS.out.cell HEQ.out⟩
                        case measure => simp [intOf]; omega
                · skip
                  go_wp2_with fail
                  go_roundw
                  case rel => exact ⟨x + 1, by omega, by go_num, ⟨HE.out, HB.out⟩, HS.out.row (by omega)⟩
                  case measure => simp [intOf]; omega
        · skip
          go_upto_region 12 with fail
          refine wp_region_vd 0 [] [] [] 84 [.int .i64 0, .int .i64 0] [] (by rfl) alloc_Z ?_ ?_
          · intro qi qh qA aa wx hb hs hd
            match qi, qh, qA with
            | qi + 0, h, _ => omega
          · intro vs X1 hb hv hal hne
            have HL0 := Hd.mk (HE.out.lt)
            have HBW := HB
            replace HB := Hd.mk (bel_then HB.out hb)
            replace HE : Hd (Env X1 [⟨w.heap.size, 24, [.int .i64 Wd, .int .i64 Ht, .slice (some ad) xs.length k]⟩, ⟨w.heap.size + 1, 95, [.int .i64 ((lin g T).a), .int .i64 ((lin g T).b), .int .i64 ((lin g T).c), .int .i64 ((lin g T).d)]⟩]) := ⟨HE.out.to hb⟩
            have HLS := HL0
            simp only [putAll, List.foldl_cons, List.foldl_nil, Act.put, List.setIfInBounds_toArray, List.set_cons_succ, List.set_cons_zero, List.drop_succ_cons, List.drop_zero]
            clear hv hal hne hb HL0 HBW HLS
            go_wp2_with fail
            go_ret
            exact ⟨_, rfl, HB.out, by show Value.bool _ = _; rw [bP_false.2 (HS.out.all (by omega) hn1.1 HPER.out)]⟩
set_option maxRecDepth 100000 in
set_option maxHeartbeats 1000000 in
theorem along0 (a b : Int) (ha : -200 ≤ a ∧ a ≤ 200) (hb : -200 ≤ b ∧ b ≤ 200) (w : World) :
    Calls Try.prog 87 #[.agg #[.int .i64 (-1), .int .i64 0, .int .i64 0, .int .i64 1], .int .i64 a, .int .i64 b] w (Got w (isP (isV (.int .i64 (far 0 a b))) (isV (.int .i64 (axi 0 a b)))).p) := by
  have hab := ha
  have hbb := hb
  clear ha hb
  go_enter Try.func87, Try.ntmps87
  go_upto_region 1 with fail
  obtain ⟨W0, hW0⟩ : ∃ W : World, W = w.alloc (.cells #[.int .i64 (-1), .int .i64 0, .int .i64 0, .int .i64 1] 95) := ⟨_, rfl⟩
  rw [← hW0]
  obtain ⟨he, hb⟩ := env_one hW0
  have HE := Hd.mk he
  have HB := Hd.mk hb
  clear he hb hW0
  refine wp_region_vd 0 [] [] [] 84 [.int .i64 0, .int .i64 0] [] (by rfl) alloc_Z ?_ ?_
  · intro qi qh qA aa wx hb hs hd
    match qi, qh, qA with
    | qi + 0, h, _ => omega
  · intro vs X1 hb hv hal hne
    have HL0 := Hd.mk (HE.out.lt)
    have HBW := HB
    replace HB := Hd.mk (bel_then HB.out hb)
    replace HE : Hd (Env X1 [⟨w.heap.size, 95, [.int .i64 (-1), .int .i64 0, .int .i64 0, .int .i64 1]⟩]) := ⟨HE.out.to hb⟩
    have HLS := HL0
    simp only [putAll, List.foldl_cons, List.foldl_nil, Act.put, List.setIfInBounds_toArray, List.set_cons_succ, List.set_cons_zero, List.drop_succ_cons, List.drop_zero]
    clear hv hal hne hb HL0 HBW HLS
    go_upto_region 2 with fail
    refine wp_region_vd 1 [10] [] [] 84 [.int .i64 0, .int .i64 0] [isV (.agg #[.int .i64 (-1), .int .i64 0, .int .i64 0, .int .i64 1])] (by rfl) alloc_Z ?_ ?_
    · intro qi qh qA aa wx hb hs hd
      match qi, qh, qA with
      | 0, _, _ => exact .inl ⟨rfl, op_ldL rfl rfl (hs 3 rfl) ((HE.out.to hb).get 0 rfl)⟩
      | qi + 1, h, _ => omega
    · intro vs X2 hb hv hal hne
      have HL0 := Hd.mk (HE.out.lt)
      have HBW := HB
      replace HB := Hd.mk (bel_then HB.out hb)
      replace HE : Hd (Env X2 [⟨w.heap.size, 95, [.int .i64 (-1), .int .i64 0, .int .i64 0, .int .i64 1]⟩]) := ⟨HE.out.to hb⟩
      have HLS := HL0
      have e10 : vs 10 = .agg #[.int .i64 (-1), .int .i64 0, .int .i64 0, .int .i64 1] := hv 0 (by decide) rfl
      simp only [putAll, List.foldl_cons, List.foldl_nil, Act.put, List.setIfInBounds_toArray, List.set_cons_succ, List.set_cons_zero, List.drop_succ_cons, List.drop_zero, e10]
      clear hv hal hne hb HL0 HBW HLS e10
      go_upto_region 3 with fail
      refine wp_region_vd 2 [12, 13] [0, 1] [] 84 [.int .i64 0, .int .i64 0] [isV (.agg #[.int .i64 (-1), .int .i64 0, .int .i64 0, .int .i64 1]), isV (.bool true)] (by rfl) alloc_Z ?_ ?_
      · intro qi qh qA aa wx hb hs hd
        match qi, qh, qA with
        | 0, _, _ => exact .inl ⟨rfl, ⟨_, op_buL rfl rfl rfl rfl rfl, rfl⟩⟩
        | 1, _, _ => exact .inl ⟨rfl, pure_b (bool_eq (by decide)) (⟨_, op_eqlL (l := ⟨-1, 0, 0, 1⟩) (m := ⟨-1, 0, 0, 1⟩) rfl (hs 10 rfl) (hd 0 rfl), rfl⟩)⟩
        | qi + 2, h, _ => omega
      · intro vs X3 hb hv hal hne
        have HL0 := Hd.mk (HE.out.lt)
        have HBW := HB
        replace HB := Hd.mk (bel_then HB.out hb)
        replace HE : Hd (Env X3 [⟨w.heap.size, 95, [.int .i64 (-1), .int .i64 0, .int .i64 0, .int .i64 1]⟩]) := ⟨HE.out.to hb⟩
        have HLS := HL0
        have e13 : vs 13 = .bool true := hv 1 (by decide) rfl
        simp only [putAll, List.foldl_cons, List.foldl_nil, Act.put, List.setIfInBounds_toArray, List.set_cons_succ, List.set_cons_zero, List.drop_succ_cons, List.drop_zero, e13]
        generalize vs 12 = s12
        clear hv hal hne hb HL0 HBW HLS e13
        go_upto_region 4 with fail
        refine wp_region_vd 0 [] [] [] 84 [.int .i64 0, .int .i64 0] [] (by rfl) alloc_Z ?_ ?_
        · intro qi qh qA aa wx hb hs hd
          match qi, qh, qA with
          | qi + 0, h, _ => omega
        · intro vs X4 hb hv hal hne
          have HL0 := Hd.mk (HE.out.lt)
          have HBW := HB
          replace HB := Hd.mk (bel_then HB.out hb)
          replace HE : Hd (Env X4 [⟨w.heap.size, 95, [.int .i64 (-1), .int .i64 0, .int .i64 0, .int .i64 1]⟩]) := ⟨HE.out.to hb⟩
          have HLS := HL0
          simp only [putAll, List.foldl_cons, List.foldl_nil, Act.put, List.setIfInBounds_toArray, List.set_cons_succ, List.set_cons_zero, List.drop_succ_cons, List.drop_zero]
          clear hv hal hne hb HL0 HBW HLS
          go_upto_region 9 with fail
          refine wp_region_vd 14 [20, 21, 22, 23, 24, 25, 26, 27, 28, 29, 30, 31, 32, 33] [0, 1, 2, 3, 4, 5, 6, 7, 8, 9, 10, 11, 12, 13] [] 84 [.int .i64 0, .int .i64 0] [isV (.int .i64 a), isV (.int .i64 0), isV (.int .i64 (a * 0)), isV (.int .i64 b), isV (.int .i64 1), isV (.int .i64 (b * 1)), isV (.int .i64 (far 0 a b)), isV (.int .i64 a), isV (.int .i64 1), isV (.int .i64 (a * 1)), isV (.int .i64 b), isV (.int .i64 0), isV (.int .i64 (b * 0)), isV (.int .i64 (axi 0 a b))] (by rfl) alloc_Z ?_ ?_
          · intro qi qh qA aa wx hb hs hd
            match qi, qh, qA with
            | 0, _, _ => exact .inl ⟨rfl, op_mv rfl (hs 1 rfl)⟩
            | 1, _, _ => exact .inl ⟨rfl, op_mv rfl (hs 8 rfl)⟩
            | 2, _, _ => exact .inl ⟨rfl, ⟨_, op_mul (by unfold Fit; omega) rfl (hd 0 rfl) (hd 1 rfl), rfl⟩⟩
            | 3, _, _ => exact .inl ⟨rfl, op_mv rfl (hs 2 rfl)⟩
            | 4, _, _ => exact .inl ⟨rfl, op_mv rfl (hs 9 rfl)⟩
            | 5, _, _ => exact .inl ⟨rfl, ⟨_, op_mul (by unfold Fit; omega) rfl (hd 3 rfl) (hd 4 rfl), rfl⟩⟩
            | 6, _, _ => exact .inl ⟨rfl, pure_b (int_eq (by show a * 0 + b * 1 = _; simp only [far]; omega)) (⟨_, op_add (by unfold Fit; omega) rfl (hd 2 rfl) (hd 5 rfl), rfl⟩)⟩
            | 7, _, _ => exact .inl ⟨rfl, op_mv rfl (hs 1 rfl)⟩
            | 8, _, _ => exact .inl ⟨rfl, op_mv rfl (hs 9 rfl)⟩
            | 9, _, _ => exact .inl ⟨rfl, ⟨_, op_mul (by unfold Fit; omega) rfl (hd 7 rfl) (hd 8 rfl), rfl⟩⟩
            | 10, _, _ => exact .inl ⟨rfl, op_mv rfl (hs 2 rfl)⟩
            | 11, _, _ => exact .inl ⟨rfl, op_mv rfl (hs 8 rfl)⟩
            | 12, _, _ => exact .inl ⟨rfl, ⟨_, op_mul (by unfold Fit; omega) rfl (hd 10 rfl) (hd 11 rfl), rfl⟩⟩
            | 13, _, _ => exact .inl ⟨rfl, pure_b (int_eq (by show a * 1 - b * 0 = _; simp only [axi]; omega)) (⟨_, op_sub (by unfold Fit; omega) rfl (hd 9 rfl) (hd 12 rfl), rfl⟩)⟩
            | qi + 14, h, _ => omega
          · intro vs X5 hb hv hal hne
            have HL0 := Hd.mk (HE.out.lt)
            have HBW := HB
            replace HB := Hd.mk (bel_then HB.out hb)
            replace HE : Hd (Env X5 [⟨w.heap.size, 95, [.int .i64 (-1), .int .i64 0, .int .i64 0, .int .i64 1]⟩]) := ⟨HE.out.to hb⟩
            have HLS := HL0
            have e26 : vs 26 = .int .i64 (far 0 a b) := hv 6 (by decide) rfl
            have e33 : vs 33 = .int .i64 (axi 0 a b) := hv 13 (by decide) rfl
            simp only [putAll, List.foldl_cons, List.foldl_nil, Act.put, List.setIfInBounds_toArray, List.set_cons_succ, List.set_cons_zero, List.drop_succ_cons, List.drop_zero, e26, e33]
            generalize vs 20 = s20
            generalize vs 21 = s21
            generalize vs 22 = s22
            generalize vs 23 = s23
            generalize vs 24 = s24
            generalize vs 25 = s25
            generalize vs 27 = s27
            generalize vs 28 = s28
            generalize vs 29 = s29
            generalize vs 30 = s30
            generalize vs 31 = s31
            generalize vs 32 = s32
            clear hv hal hne hb HL0 HBW HLS e26 e33
            go_wp2_with fail
            refine bodyPost_ret (v := .tuple #[.int .i64 (far 0 a b), .int .i64 (axi 0 a b)]) (by simp [results, Try.results87, go_sem]) rfl ?_
            exact ⟨_, rfl, HB.out, _, _, rfl, rfl, rfl⟩
set_option maxRecDepth 100000 in
set_option maxHeartbeats 1000000 in
theorem along1 (a b : Int) (ha : -200 ≤ a ∧ a ≤ 200) (hb : -200 ≤ b ∧ b ≤ 200) (w : World) :
    Calls Try.prog 87 #[.agg #[.int .i64 0, .int .i64 (-1), .int .i64 (-1), .int .i64 0], .int .i64 a, .int .i64 b] w (Got w (isP (isV (.int .i64 (far 1 a b))) (isV (.int .i64 (axi 1 a b)))).p) := by
  have hab := ha
  have hbb := hb
  clear ha hb
  go_enter Try.func87, Try.ntmps87
  go_upto_region 1 with fail
  obtain ⟨W0, hW0⟩ : ∃ W : World, W = w.alloc (.cells #[.int .i64 0, .int .i64 (-1), .int .i64 (-1), .int .i64 0] 95) := ⟨_, rfl⟩
  rw [← hW0]
  obtain ⟨he, hb⟩ := env_one hW0
  have HE := Hd.mk he
  have HB := Hd.mk hb
  clear he hb hW0
  refine wp_region_vd 0 [] [] [] 84 [.int .i64 0, .int .i64 0] [] (by rfl) alloc_Z ?_ ?_
  · intro qi qh qA aa wx hb hs hd
    match qi, qh, qA with
    | qi + 0, h, _ => omega
  · intro vs X1 hb hv hal hne
    have HL0 := Hd.mk (HE.out.lt)
    have HBW := HB
    replace HB := Hd.mk (bel_then HB.out hb)
    replace HE : Hd (Env X1 [⟨w.heap.size, 95, [.int .i64 0, .int .i64 (-1), .int .i64 (-1), .int .i64 0]⟩]) := ⟨HE.out.to hb⟩
    have HLS := HL0
    simp only [putAll, List.foldl_cons, List.foldl_nil, Act.put, List.setIfInBounds_toArray, List.set_cons_succ, List.set_cons_zero, List.drop_succ_cons, List.drop_zero]
    clear hv hal hne hb HL0 HBW HLS
    go_upto_region 2 with fail
    refine wp_region_vd 1 [10] [] [] 84 [.int .i64 0, .int .i64 0] [isV (.agg #[.int .i64 0, .int .i64 (-1), .int .i64 (-1), .int .i64 0])] (by rfl) alloc_Z ?_ ?_
    · intro qi qh qA aa wx hb hs hd
      match qi, qh, qA with
      | 0, _, _ => exact .inl ⟨rfl, op_ldL rfl rfl (hs 3 rfl) ((HE.out.to hb).get 0 rfl)⟩
      | qi + 1, h, _ => omega
    · intro vs X2 hb hv hal hne
      have HL0 := Hd.mk (HE.out.lt)
      have HBW := HB
      replace HB := Hd.mk (bel_then HB.out hb)
      replace HE : Hd (Env X2 [⟨w.heap.size, 95, [.int .i64 0, .int .i64 (-1), .int .i64 (-1), .int .i64 0]⟩]) := ⟨HE.out.to hb⟩
      have HLS := HL0
      have e10 : vs 10 = .agg #[.int .i64 0, .int .i64 (-1), .int .i64 (-1), .int .i64 0] := hv 0 (by decide) rfl
      simp only [putAll, List.foldl_cons, List.foldl_nil, Act.put, List.setIfInBounds_toArray, List.set_cons_succ, List.set_cons_zero, List.drop_succ_cons, List.drop_zero, e10]
      clear hv hal hne hb HL0 HBW HLS e10
      go_upto_region 3 with fail
      refine wp_region_vd 2 [12, 13] [0, 1] [] 84 [.int .i64 0, .int .i64 0] [isV (.agg #[.int .i64 (-1), .int .i64 0, .int .i64 0, .int .i64 1]), isV (.bool false)] (by rfl) alloc_Z ?_ ?_
      · intro qi qh qA aa wx hb hs hd
        match qi, qh, qA with
        | 0, _, _ => exact .inl ⟨rfl, ⟨_, op_buL rfl rfl rfl rfl rfl, rfl⟩⟩
        | 1, _, _ => exact .inl ⟨rfl, pure_b (bool_eq (by decide)) (⟨_, op_eqlL (l := ⟨0, -1, -1, 0⟩) (m := ⟨-1, 0, 0, 1⟩) rfl (hs 10 rfl) (hd 0 rfl), rfl⟩)⟩
        | qi + 2, h, _ => omega
      · intro vs X3 hb hv hal hne
        have HL0 := Hd.mk (HE.out.lt)
        have HBW := HB
        replace HB := Hd.mk (bel_then HB.out hb)
        replace HE : Hd (Env X3 [⟨w.heap.size, 95, [.int .i64 0, .int .i64 (-1), .int .i64 (-1), .int .i64 0]⟩]) := ⟨HE.out.to hb⟩
        have HLS := HL0
        have e13 : vs 13 = .bool false := hv 1 (by decide) rfl
        simp only [putAll, List.foldl_cons, List.foldl_nil, Act.put, List.setIfInBounds_toArray, List.set_cons_succ, List.set_cons_zero, List.drop_succ_cons, List.drop_zero, e13]
        generalize vs 12 = s12
        clear hv hal hne hb HL0 HBW HLS e13
        go_upto_region 5 with fail
        refine wp_region_vd 2 [15, 16] [0, 1] [] 84 [.int .i64 0, .int .i64 0] [isV (.agg #[.int .i64 0, .int .i64 1, .int .i64 1, .int .i64 0]), isV (.bool false)] (by rfl) alloc_Z ?_ ?_
        · intro qi qh qA aa wx hb hs hd
          match qi, qh, qA with
          | 0, _, _ => exact .inl ⟨rfl, ⟨_, op_buL rfl rfl rfl rfl rfl, rfl⟩⟩
          | 1, _, _ => exact .inl ⟨rfl, pure_b (bool_eq (by decide)) (⟨_, op_eqlL (l := ⟨0, -1, -1, 0⟩) (m := ⟨0, 1, 1, 0⟩) rfl (hs 10 rfl) (hd 0 rfl), rfl⟩)⟩
          | qi + 2, h, _ => omega
        · intro vs X4 hb hv hal hne
          have HL0 := Hd.mk (HE.out.lt)
          have HBW := HB
          replace HB := Hd.mk (bel_then HB.out hb)
          replace HE : Hd (Env X4 [⟨w.heap.size, 95, [.int .i64 0, .int .i64 (-1), .int .i64 (-1), .int .i64 0]⟩]) := ⟨HE.out.to hb⟩
          have HLS := HL0
          have e16 : vs 16 = .bool false := hv 1 (by decide) rfl
          simp only [putAll, List.foldl_cons, List.foldl_nil, Act.put, List.setIfInBounds_toArray, List.set_cons_succ, List.set_cons_zero, List.drop_succ_cons, List.drop_zero, e16]
          generalize vs 15 = s15
          clear hv hal hne hb HL0 HBW HLS e16
          go_upto_region 7 with fail
          refine wp_region_vd 2 [18, 19] [0, 1] [] 84 [.int .i64 0, .int .i64 0] [isV (.agg #[.int .i64 0, .int .i64 (-1), .int .i64 (-1), .int .i64 0]), isV (.bool true)] (by rfl) alloc_Z ?_ ?_
          · intro qi qh qA aa wx hb hs hd
            match qi, qh, qA with
            | 0, _, _ => exact .inl ⟨rfl, ⟨_, op_buL rfl rfl rfl rfl rfl, rfl⟩⟩
            | 1, _, _ => exact .inl ⟨rfl, pure_b (bool_eq (by decide)) (⟨_, op_eqlL (l := ⟨0, -1, -1, 0⟩) (m := ⟨0, -1, -1, 0⟩) rfl (hs 10 rfl) (hd 0 rfl), rfl⟩)⟩
            | qi + 2, h, _ => omega
          · intro vs X5 hb hv hal hne
            have HL0 := Hd.mk (HE.out.lt)
            have HBW := HB
            replace HB := Hd.mk (bel_then HB.out hb)
            replace HE : Hd (Env X5 [⟨w.heap.size, 95, [.int .i64 0, .int .i64 (-1), .int .i64 (-1), .int .i64 0]⟩]) := ⟨HE.out.to hb⟩
            have HLS := HL0
            have e19 : vs 19 = .bool true := hv 1 (by decide) rfl
            simp only [putAll, List.foldl_cons, List.foldl_nil, Act.put, List.setIfInBounds_toArray, List.set_cons_succ, List.set_cons_zero, List.drop_succ_cons, List.drop_zero, e19]
            generalize vs 18 = s18
            clear hv hal hne hb HL0 HBW HLS e19
            go_upto_region 8 with fail
            refine wp_region_vd 0 [] [] [] 84 [.int .i64 0, .int .i64 0] [] (by rfl) alloc_Z ?_ ?_
            · intro qi qh qA aa wx hb hs hd
              match qi, qh, qA with
              | qi + 0, h, _ => omega
            · intro vs X6 hb hv hal hne
              have HL0 := Hd.mk (HE.out.lt)
              have HBW := HB
              replace HB := Hd.mk (bel_then HB.out hb)
              replace HE : Hd (Env X6 [⟨w.heap.size, 95, [.int .i64 0, .int .i64 (-1), .int .i64 (-1), .int .i64 0]⟩]) := ⟨HE.out.to hb⟩
              have HLS := HL0
              simp only [putAll, List.foldl_cons, List.foldl_nil, Act.put, List.setIfInBounds_toArray, List.set_cons_succ, List.set_cons_zero, List.drop_succ_cons, List.drop_zero]
              clear hv hal hne hb HL0 HBW HLS
              go_upto_region 9 with fail
              refine wp_region_vd 14 [20, 21, 22, 23, 24, 25, 26, 27, 28, 29, 30, 31, 32, 33] [0, 1, 2, 3, 4, 5, 6, 7, 8, 9, 10, 11, 12, 13] [] 84 [.int .i64 0, .int .i64 0] [isV (.int .i64 a), isV (.int .i64 1), isV (.int .i64 (a * 1)), isV (.int .i64 b), isV (.int .i64 (-1)), isV (.int .i64 (b * (-1))), isV (.int .i64 (far 1 a b)), isV (.int .i64 a), isV (.int .i64 (-1)), isV (.int .i64 (a * (-1))), isV (.int .i64 b), isV (.int .i64 1), isV (.int .i64 (b * 1)), isV (.int .i64 (axi 1 a b))] (by rfl) alloc_Z ?_ ?_
              · intro qi qh qA aa wx hb hs hd
                match qi, qh, qA with
                | 0, _, _ => exact .inl ⟨rfl, op_mv rfl (hs 1 rfl)⟩
                | 1, _, _ => exact .inl ⟨rfl, op_mv rfl (hs 8 rfl)⟩
                | 2, _, _ => exact .inl ⟨rfl, ⟨_, op_mul (by unfold Fit; omega) rfl (hd 0 rfl) (hd 1 rfl), rfl⟩⟩
                | 3, _, _ => exact .inl ⟨rfl, op_mv rfl (hs 2 rfl)⟩
                | 4, _, _ => exact .inl ⟨rfl, op_mv rfl (hs 9 rfl)⟩
                | 5, _, _ => exact .inl ⟨rfl, ⟨_, op_mul (by unfold Fit; omega) rfl (hd 3 rfl) (hd 4 rfl), rfl⟩⟩
                | 6, _, _ => exact .inl ⟨rfl, pure_b (int_eq (by show a * 1 + b * (-1) = _; simp only [far]; omega)) (⟨_, op_add (by unfold Fit; omega) rfl (hd 2 rfl) (hd 5 rfl), rfl⟩)⟩
                | 7, _, _ => exact .inl ⟨rfl, op_mv rfl (hs 1 rfl)⟩
                | 8, _, _ => exact .inl ⟨rfl, op_mv rfl (hs 9 rfl)⟩
                | 9, _, _ => exact .inl ⟨rfl, ⟨_, op_mul (by unfold Fit; omega) rfl (hd 7 rfl) (hd 8 rfl), rfl⟩⟩
                | 10, _, _ => exact .inl ⟨rfl, op_mv rfl (hs 2 rfl)⟩
                | 11, _, _ => exact .inl ⟨rfl, op_mv rfl (hs 8 rfl)⟩
                | 12, _, _ => exact .inl ⟨rfl, ⟨_, op_mul (by unfold Fit; omega) rfl (hd 10 rfl) (hd 11 rfl), rfl⟩⟩
                | 13, _, _ => exact .inl ⟨rfl, pure_b (int_eq (by show a * (-1) - b * 1 = _; simp only [axi]; omega)) (⟨_, op_sub (by unfold Fit; omega) rfl (hd 9 rfl) (hd 12 rfl), rfl⟩)⟩
                | qi + 14, h, _ => omega
              · intro vs X7 hb hv hal hne
                have HL0 := Hd.mk (HE.out.lt)
                have HBW := HB
                replace HB := Hd.mk (bel_then HB.out hb)
                replace HE : Hd (Env X7 [⟨w.heap.size, 95, [.int .i64 0, .int .i64 (-1), .int .i64 (-1), .int .i64 0]⟩]) := ⟨HE.out.to hb⟩
                have HLS := HL0
                have e26 : vs 26 = .int .i64 (far 1 a b) := hv 6 (by decide) rfl
                have e33 : vs 33 = .int .i64 (axi 1 a b) := hv 13 (by decide) rfl
                simp only [putAll, List.foldl_cons, List.foldl_nil, Act.put, List.setIfInBounds_toArray, List.set_cons_succ, List.set_cons_zero, List.drop_succ_cons, List.drop_zero, e26, e33]
                generalize vs 20 = s20
                generalize vs 21 = s21
                generalize vs 22 = s22
                generalize vs 23 = s23
                generalize vs 24 = s24
                generalize vs 25 = s25
                generalize vs 27 = s27
                generalize vs 28 = s28
                generalize vs 29 = s29
                generalize vs 30 = s30
                generalize vs 31 = s31
                generalize vs 32 = s32
                clear hv hal hne hb HL0 HBW HLS e26 e33
                go_wp2_with fail
                refine bodyPost_ret (v := .tuple #[.int .i64 (far 1 a b), .int .i64 (axi 1 a b)]) (by simp [results, Try.results87, go_sem]) rfl ?_
                exact ⟨_, rfl, HB.out, _, _, rfl, rfl, rfl⟩
set_option maxRecDepth 100000 in
set_option maxHeartbeats 1000000 in
theorem along2 (a b : Int) (ha : -200 ≤ a ∧ a ≤ 200) (hb : -200 ≤ b ∧ b ≤ 200) (w : World) :
    Calls Try.prog 87 #[.agg #[.int .i64 1, .int .i64 0, .int .i64 0, .int .i64 (-1)], .int .i64 a, .int .i64 b] w (Got w (isP (isV (.int .i64 (far 2 a b))) (isV (.int .i64 (axi 2 a b)))).p) := by
  have hab := ha
  have hbb := hb
  clear ha hb
  go_enter Try.func87, Try.ntmps87
  go_upto_region 1 with fail
  obtain ⟨W0, hW0⟩ : ∃ W : World, W = w.alloc (.cells #[.int .i64 1, .int .i64 0, .int .i64 0, .int .i64 (-1)] 95) := ⟨_, rfl⟩
  rw [← hW0]
  obtain ⟨he, hb⟩ := env_one hW0
  have HE := Hd.mk he
  have HB := Hd.mk hb
  clear he hb hW0
  refine wp_region_vd 0 [] [] [] 84 [.int .i64 0, .int .i64 0] [] (by rfl) alloc_Z ?_ ?_
  · intro qi qh qA aa wx hb hs hd
    match qi, qh, qA with
    | qi + 0, h, _ => omega
  · intro vs X1 hb hv hal hne
    have HL0 := Hd.mk (HE.out.lt)
    have HBW := HB
    replace HB := Hd.mk (bel_then HB.out hb)
    replace HE : Hd (Env X1 [⟨w.heap.size, 95, [.int .i64 1, .int .i64 0, .int .i64 0, .int .i64 (-1)]⟩]) := ⟨HE.out.to hb⟩
    have HLS := HL0
    simp only [putAll, List.foldl_cons, List.foldl_nil, Act.put, List.setIfInBounds_toArray, List.set_cons_succ, List.set_cons_zero, List.drop_succ_cons, List.drop_zero]
    clear hv hal hne hb HL0 HBW HLS
    go_upto_region 2 with fail
    refine wp_region_vd 1 [10] [] [] 84 [.int .i64 0, .int .i64 0] [isV (.agg #[.int .i64 1, .int .i64 0, .int .i64 0, .int .i64 (-1)])] (by rfl) alloc_Z ?_ ?_
    · intro qi qh qA aa wx hb hs hd
      match qi, qh, qA with
      | 0, _, _ => exact .inl ⟨rfl, op_ldL rfl rfl (hs 3 rfl) ((HE.out.to hb).get 0 rfl)⟩
      | qi + 1, h, _ => omega
    · intro vs X2 hb hv hal hne
      have HL0 := Hd.mk (HE.out.lt)
      have HBW := HB
      replace HB := Hd.mk (bel_then HB.out hb)
      replace HE : Hd (Env X2 [⟨w.heap.size, 95, [.int .i64 1, .int .i64 0, .int .i64 0, .int .i64 (-1)]⟩]) := ⟨HE.out.to hb⟩
      have HLS := HL0
      have e10 : vs 10 = .agg #[.int .i64 1, .int .i64 0, .int .i64 0, .int .i64 (-1)] := hv 0 (by decide) rfl
      simp only [putAll, List.foldl_cons, List.foldl_nil, Act.put, List.setIfInBounds_toArray, List.set_cons_succ, List.set_cons_zero, List.drop_succ_cons, List.drop_zero, e10]
      clear hv hal hne hb HL0 HBW HLS e10
      go_upto_region 3 with fail
      refine wp_region_vd 2 [12, 13] [0, 1] [] 84 [.int .i64 0, .int .i64 0] [isV (.agg #[.int .i64 (-1), .int .i64 0, .int .i64 0, .int .i64 1]), isV (.bool false)] (by rfl) alloc_Z ?_ ?_
      · intro qi qh qA aa wx hb hs hd
        match qi, qh, qA with
        | 0, _, _ => exact .inl ⟨rfl, ⟨_, op_buL rfl rfl rfl rfl rfl, rfl⟩⟩
        | 1, _, _ => exact .inl ⟨rfl, pure_b (bool_eq (by decide)) (⟨_, op_eqlL (l := ⟨1, 0, 0, -1⟩) (m := ⟨-1, 0, 0, 1⟩) rfl (hs 10 rfl) (hd 0 rfl), rfl⟩)⟩
        | qi + 2, h, _ => omega
      · intro vs X3 hb hv hal hne
        have HL0 := Hd.mk (HE.out.lt)
        have HBW := HB
        replace HB := Hd.mk (bel_then HB.out hb)
        replace HE : Hd (Env X3 [⟨w.heap.size, 95, [.int .i64 1, .int .i64 0, .int .i64 0, .int .i64 (-1)]⟩]) := ⟨HE.out.to hb⟩
        have HLS := HL0
        have e13 : vs 13 = .bool false := hv 1 (by decide) rfl
        simp only [putAll, List.foldl_cons, List.foldl_nil, Act.put, List.setIfInBounds_toArray, List.set_cons_succ, List.set_cons_zero, List.drop_succ_cons, List.drop_zero, e13]
        generalize vs 12 = s12
        clear hv hal hne hb HL0 HBW HLS e13
        go_upto_region 5 with fail
        refine wp_region_vd 2 [15, 16] [0, 1] [] 84 [.int .i64 0, .int .i64 0] [isV (.agg #[.int .i64 0, .int .i64 1, .int .i64 1, .int .i64 0]), isV (.bool false)] (by rfl) alloc_Z ?_ ?_
        · intro qi qh qA aa wx hb hs hd
          match qi, qh, qA with
          | 0, _, _ => exact .inl ⟨rfl, ⟨_, op_buL rfl rfl rfl rfl rfl, rfl⟩⟩
          | 1, _, _ => exact .inl ⟨rfl, pure_b (bool_eq (by decide)) (⟨_, op_eqlL (l := ⟨1, 0, 0, -1⟩) (m := ⟨0, 1, 1, 0⟩) rfl (hs 10 rfl) (hd 0 rfl), rfl⟩)⟩
          | qi + 2, h, _ => omega
        · intro vs X4 hb hv hal hne
          have HL0 := Hd.mk (HE.out.lt)
          have HBW := HB
          replace HB := Hd.mk (bel_then HB.out hb)
          replace HE : Hd (Env X4 [⟨w.heap.size, 95, [.int .i64 1, .int .i64 0, .int .i64 0, .int .i64 (-1)]⟩]) := ⟨HE.out.to hb⟩
          have HLS := HL0
          have e16 : vs 16 = .bool false := hv 1 (by decide) rfl
          simp only [putAll, List.foldl_cons, List.foldl_nil, Act.put, List.setIfInBounds_toArray, List.set_cons_succ, List.set_cons_zero, List.drop_succ_cons, List.drop_zero, e16]
          generalize vs 15 = s15
          clear hv hal hne hb HL0 HBW HLS e16
          go_upto_region 7 with fail
          refine wp_region_vd 2 [18, 19] [0, 1] [] 84 [.int .i64 0, .int .i64 0] [isV (.agg #[.int .i64 0, .int .i64 (-1), .int .i64 (-1), .int .i64 0]), isV (.bool false)] (by rfl) alloc_Z ?_ ?_
          · intro qi qh qA aa wx hb hs hd
            match qi, qh, qA with
            | 0, _, _ => exact .inl ⟨rfl, ⟨_, op_buL rfl rfl rfl rfl rfl, rfl⟩⟩
            | 1, _, _ => exact .inl ⟨rfl, pure_b (bool_eq (by decide)) (⟨_, op_eqlL (l := ⟨1, 0, 0, -1⟩) (m := ⟨0, -1, -1, 0⟩) rfl (hs 10 rfl) (hd 0 rfl), rfl⟩)⟩
            | qi + 2, h, _ => omega
          · intro vs X5 hb hv hal hne
            have HL0 := Hd.mk (HE.out.lt)
            have HBW := HB
            replace HB := Hd.mk (bel_then HB.out hb)
            replace HE : Hd (Env X5 [⟨w.heap.size, 95, [.int .i64 1, .int .i64 0, .int .i64 0, .int .i64 (-1)]⟩]) := ⟨HE.out.to hb⟩
            have HLS := HL0
            have e19 : vs 19 = .bool false := hv 1 (by decide) rfl
            simp only [putAll, List.foldl_cons, List.foldl_nil, Act.put, List.setIfInBounds_toArray, List.set_cons_succ, List.set_cons_zero, List.drop_succ_cons, List.drop_zero, e19]
            generalize vs 18 = s18
            clear hv hal hne hb HL0 HBW HLS e19
            go_upto_region 9 with fail
            refine wp_region_vd 14 [20, 21, 22, 23, 24, 25, 26, 27, 28, 29, 30, 31, 32, 33] [0, 1, 2, 3, 4, 5, 6, 7, 8, 9, 10, 11, 12, 13] [] 84 [.int .i64 0, .int .i64 0] [isV (.int .i64 a), isV (.int .i64 1), isV (.int .i64 (a * 1)), isV (.int .i64 b), isV (.int .i64 0), isV (.int .i64 (b * 0)), isV (.int .i64 (far 2 a b)), isV (.int .i64 a), isV (.int .i64 0), isV (.int .i64 (a * 0)), isV (.int .i64 b), isV (.int .i64 1), isV (.int .i64 (b * 1)), isV (.int .i64 (axi 2 a b))] (by rfl) alloc_Z ?_ ?_
            · intro qi qh qA aa wx hb hs hd
              match qi, qh, qA with
              | 0, _, _ => exact .inl ⟨rfl, op_mv rfl (hs 1 rfl)⟩
              | 1, _, _ => exact .inl ⟨rfl, op_mv rfl (hs 8 rfl)⟩
              | 2, _, _ => exact .inl ⟨rfl, ⟨_, op_mul (by unfold Fit; omega) rfl (hd 0 rfl) (hd 1 rfl), rfl⟩⟩
              | 3, _, _ => exact .inl ⟨rfl, op_mv rfl (hs 2 rfl)⟩
              | 4, _, _ => exact .inl ⟨rfl, op_mv rfl (hs 9 rfl)⟩
              | 5, _, _ => exact .inl ⟨rfl, ⟨_, op_mul (by unfold Fit; omega) rfl (hd 3 rfl) (hd 4 rfl), rfl⟩⟩
              | 6, _, _ => exact .inl ⟨rfl, pure_b (int_eq (by show a * 1 + b * 0 = _; simp only [far]; omega)) (⟨_, op_add (by unfold Fit; omega) rfl (hd 2 rfl) (hd 5 rfl), rfl⟩)⟩
              | 7, _, _ => exact .inl ⟨rfl, op_mv rfl (hs 1 rfl)⟩
              | 8, _, _ => exact .inl ⟨rfl, op_mv rfl (hs 9 rfl)⟩
              | 9, _, _ => exact .inl ⟨rfl, ⟨_, op_mul (by unfold Fit; omega) rfl (hd 7 rfl) (hd 8 rfl), rfl⟩⟩
              | 10, _, _ => exact .inl ⟨rfl, op_mv rfl (hs 2 rfl)⟩
              | 11, _, _ => exact .inl ⟨rfl, op_mv rfl (hs 8 rfl)⟩
              | 12, _, _ => exact .inl ⟨rfl, ⟨_, op_mul (by unfold Fit; omega) rfl (hd 10 rfl) (hd 11 rfl), rfl⟩⟩
              | 13, _, _ => exact .inl ⟨rfl, pure_b (int_eq (by show a * 0 - b * 1 = _; simp only [axi]; omega)) (⟨_, op_sub (by unfold Fit; omega) rfl (hd 9 rfl) (hd 12 rfl), rfl⟩)⟩
              | qi + 14, h, _ => omega
            · intro vs X6 hb hv hal hne
              have HL0 := Hd.mk (HE.out.lt)
              have HBW := HB
              replace HB := Hd.mk (bel_then HB.out hb)
              replace HE : Hd (Env X6 [⟨w.heap.size, 95, [.int .i64 1, .int .i64 0, .int .i64 0, .int .i64 (-1)]⟩]) := ⟨HE.out.to hb⟩
              have HLS := HL0
              have e26 : vs 26 = .int .i64 (far 2 a b) := hv 6 (by decide) rfl
              have e33 : vs 33 = .int .i64 (axi 2 a b) := hv 13 (by decide) rfl
              simp only [putAll, List.foldl_cons, List.foldl_nil, Act.put, List.setIfInBounds_toArray, List.set_cons_succ, List.set_cons_zero, List.drop_succ_cons, List.drop_zero, e26, e33]
              generalize vs 20 = s20
              generalize vs 21 = s21
              generalize vs 22 = s22
              generalize vs 23 = s23
              generalize vs 24 = s24
              generalize vs 25 = s25
              generalize vs 27 = s27
              generalize vs 28 = s28
              generalize vs 29 = s29
              generalize vs 30 = s30
              generalize vs 31 = s31
              generalize vs 32 = s32
              clear hv hal hne hb HL0 HBW HLS e26 e33
              go_wp2_with fail
              refine bodyPost_ret (v := .tuple #[.int .i64 (far 2 a b), .int .i64 (axi 2 a b)]) (by simp [results, Try.results87, go_sem]) rfl ?_
              exact ⟨_, rfl, HB.out, _, _, rfl, rfl, rfl⟩
set_option maxRecDepth 100000 in
set_option maxHeartbeats 1000000 in
theorem along3 (a b : Int) (ha : -200 ≤ a ∧ a ≤ 200) (hb : -200 ≤ b ∧ b ≤ 200) (w : World) :
    Calls Try.prog 87 #[.agg #[.int .i64 0, .int .i64 1, .int .i64 1, .int .i64 0], .int .i64 a, .int .i64 b] w (Got w (isP (isV (.int .i64 (far 3 a b))) (isV (.int .i64 (axi 3 a b)))).p) := by
  have hab := ha
  have hbb := hb
  clear ha hb
  go_enter Try.func87, Try.ntmps87
  go_upto_region 1 with fail
  obtain ⟨W0, hW0⟩ : ∃ W : World, W = w.alloc (.cells #[.int .i64 0, .int .i64 1, .int .i64 1, .int .i64 0] 95) := ⟨_, rfl⟩
  rw [← hW0]
  obtain ⟨he, hb⟩ := env_one hW0
  have HE := Hd.mk he
  have HB := Hd.mk hb
  clear he hb hW0
  refine wp_region_vd 0 [] [] [] 84 [.int .i64 0, .int .i64 0] [] (by rfl) alloc_Z ?_ ?_
  · intro qi qh qA aa wx hb hs hd
    match qi, qh, qA with
    | qi + 0, h, _ => omega
  · intro vs X1 hb hv hal hne
    have HL0 := Hd.mk (HE.out.lt)
    have HBW := HB
    replace HB := Hd.mk (bel_then HB.out hb)
    replace HE : Hd (Env X1 [⟨w.heap.size, 95, [.int .i64 0, .int .i64 1, .int .i64 1, .int .i64 0]⟩]) := ⟨HE.out.to hb⟩
    have HLS := HL0
    simp only [putAll, List.foldl_cons, List.foldl_nil, Act.put, List.setIfInBounds_toArray, List.set_cons_succ, List.set_cons_zero, List.drop_succ_cons, List.drop_zero]
    clear hv hal hne hb HL0 HBW HLS
    go_upto_region 2 with fail
    refine wp_region_vd 1 [10] [] [] 84 [.int .i64 0, .int .i64 0] [isV (.agg #[.int .i64 0, .int .i64 1, .int .i64 1, .int .i64 0])] (by rfl) alloc_Z ?_ ?_
    · intro qi qh qA aa wx hb hs hd
      match qi, qh, qA with
      | 0, _, _ => exact .inl ⟨rfl, op_ldL rfl rfl (hs 3 rfl) ((HE.out.to hb).get 0 rfl)⟩
      | qi + 1, h, _ => omega
    · intro vs X2 hb hv hal hne
      have HL0 := Hd.mk (HE.out.lt)
      have HBW := HB
      replace HB := Hd.mk (bel_then HB.out hb)
      replace HE : Hd (Env X2 [⟨w.heap.size, 95, [.int .i64 0, .int .i64 1, .int .i64 1, .int .i64 0]⟩]) := ⟨HE.out.to hb⟩
      have HLS := HL0
      have e10 : vs 10 = .agg #[.int .i64 0, .int .i64 1, .int .i64 1, .int .i64 0] := hv 0 (by decide) rfl
      simp only [putAll, List.foldl_cons, List.foldl_nil, Act.put, List.setIfInBounds_toArray, List.set_cons_succ, List.set_cons_zero, List.drop_succ_cons, List.drop_zero, e10]
      clear hv hal hne hb HL0 HBW HLS e10
      go_upto_region 3 with fail
      refine wp_region_vd 2 [12, 13] [0, 1] [] 84 [.int .i64 0, .int .i64 0] [isV (.agg #[.int .i64 (-1), .int .i64 0, .int .i64 0, .int .i64 1]), isV (.bool false)] (by rfl) alloc_Z ?_ ?_
      · intro qi qh qA aa wx hb hs hd
        match qi, qh, qA with
        | 0, _, _ => exact .inl ⟨rfl, ⟨_, op_buL rfl rfl rfl rfl rfl, rfl⟩⟩
        | 1, _, _ => exact .inl ⟨rfl, pure_b (bool_eq (by decide)) (⟨_, op_eqlL (l := ⟨0, 1, 1, 0⟩) (m := ⟨-1, 0, 0, 1⟩) rfl (hs 10 rfl) (hd 0 rfl), rfl⟩)⟩
        | qi + 2, h, _ => omega
      · intro vs X3 hb hv hal hne
        have HL0 := Hd.mk (HE.out.lt)
        have HBW := HB
        replace HB := Hd.mk (bel_then HB.out hb)
        replace HE : Hd (Env X3 [⟨w.heap.size, 95, [.int .i64 0, .int .i64 1, .int .i64 1, .int .i64 0]⟩]) := ⟨HE.out.to hb⟩
        have HLS := HL0
        have e13 : vs 13 = .bool false := hv 1 (by decide) rfl
        simp only [putAll, List.foldl_cons, List.foldl_nil, Act.put, List.setIfInBounds_toArray, List.set_cons_succ, List.set_cons_zero, List.drop_succ_cons, List.drop_zero, e13]
        generalize vs 12 = s12
        clear hv hal hne hb HL0 HBW HLS e13
        go_upto_region 5 with fail
        refine wp_region_vd 2 [15, 16] [0, 1] [] 84 [.int .i64 0, .int .i64 0] [isV (.agg #[.int .i64 0, .int .i64 1, .int .i64 1, .int .i64 0]), isV (.bool true)] (by rfl) alloc_Z ?_ ?_
        · intro qi qh qA aa wx hb hs hd
          match qi, qh, qA with
          | 0, _, _ => exact .inl ⟨rfl, ⟨_, op_buL rfl rfl rfl rfl rfl, rfl⟩⟩
          | 1, _, _ => exact .inl ⟨rfl, pure_b (bool_eq (by decide)) (⟨_, op_eqlL (l := ⟨0, 1, 1, 0⟩) (m := ⟨0, 1, 1, 0⟩) rfl (hs 10 rfl) (hd 0 rfl), rfl⟩)⟩
          | qi + 2, h, _ => omega
        · intro vs X4 hb hv hal hne
          have HL0 := Hd.mk (HE.out.lt)
          have HBW := HB
          replace HB := Hd.mk (bel_then HB.out hb)
          replace HE : Hd (Env X4 [⟨w.heap.size, 95, [.int .i64 0, .int .i64 1, .int .i64 1, .int .i64 0]⟩]) := ⟨HE.out.to hb⟩
          have HLS := HL0
          have e16 : vs 16 = .bool true := hv 1 (by decide) rfl
          simp only [putAll, List.foldl_cons, List.foldl_nil, Act.put, List.setIfInBounds_toArray, List.set_cons_succ, List.set_cons_zero, List.drop_succ_cons, List.drop_zero, e16]
          generalize vs 15 = s15
          clear hv hal hne hb HL0 HBW HLS e16
          go_upto_region 6 with fail
          refine wp_region_vd 0 [] [] [] 84 [.int .i64 0, .int .i64 0] [] (by rfl) alloc_Z ?_ ?_
          · intro qi qh qA aa wx hb hs hd
            match qi, qh, qA with
            | qi + 0, h, _ => omega
          · intro vs X5 hb hv hal hne
            have HL0 := Hd.mk (HE.out.lt)
            have HBW := HB
            replace HB := Hd.mk (bel_then HB.out hb)
            replace HE : Hd (Env X5 [⟨w.heap.size, 95, [.int .i64 0, .int .i64 1, .int .i64 1, .int .i64 0]⟩]) := ⟨HE.out.to hb⟩
            have HLS := HL0
            simp only [putAll, List.foldl_cons, List.foldl_nil, Act.put, List.setIfInBounds_toArray, List.set_cons_succ, List.set_cons_zero, List.drop_succ_cons, List.drop_zero]
            clear hv hal hne hb HL0 HBW HLS
            go_upto_region 9 with fail
            refine wp_region_vd 14 [20, 21, 22, 23, 24, 25, 26, 27, 28, 29, 30, 31, 32, 33] [0, 1, 2, 3, 4, 5, 6, 7, 8, 9, 10, 11, 12, 13] [] 84 [.int .i64 0, .int .i64 0] [isV (.int .i64 a), isV (.int .i64 1), isV (.int .i64 (a * 1)), isV (.int .i64 b), isV (.int .i64 1), isV (.int .i64 (b * 1)), isV (.int .i64 (far 3 a b)), isV (.int .i64 a), isV (.int .i64 1), isV (.int .i64 (a * 1)), isV (.int .i64 b), isV (.int .i64 1), isV (.int .i64 (b * 1)), isV (.int .i64 (axi 3 a b))] (by rfl) alloc_Z ?_ ?_
            · intro qi qh qA aa wx hb hs hd
              match qi, qh, qA with
              | 0, _, _ => exact .inl ⟨rfl, op_mv rfl (hs 1 rfl)⟩
              | 1, _, _ => exact .inl ⟨rfl, op_mv rfl (hs 8 rfl)⟩
              | 2, _, _ => exact .inl ⟨rfl, ⟨_, op_mul (by unfold Fit; omega) rfl (hd 0 rfl) (hd 1 rfl), rfl⟩⟩
              | 3, _, _ => exact .inl ⟨rfl, op_mv rfl (hs 2 rfl)⟩
              | 4, _, _ => exact .inl ⟨rfl, op_mv rfl (hs 9 rfl)⟩
              | 5, _, _ => exact .inl ⟨rfl, ⟨_, op_mul (by unfold Fit; omega) rfl (hd 3 rfl) (hd 4 rfl), rfl⟩⟩
              | 6, _, _ => exact .inl ⟨rfl, pure_b (int_eq (by show a * 1 + b * 1 = _; simp only [far]; omega)) (⟨_, op_add (by unfold Fit; omega) rfl (hd 2 rfl) (hd 5 rfl), rfl⟩)⟩
              | 7, _, _ => exact .inl ⟨rfl, op_mv rfl (hs 1 rfl)⟩
              | 8, _, _ => exact .inl ⟨rfl, op_mv rfl (hs 9 rfl)⟩
              | 9, _, _ => exact .inl ⟨rfl, ⟨_, op_mul (by unfold Fit; omega) rfl (hd 7 rfl) (hd 8 rfl), rfl⟩⟩
              | 10, _, _ => exact .inl ⟨rfl, op_mv rfl (hs 2 rfl)⟩
              | 11, _, _ => exact .inl ⟨rfl, op_mv rfl (hs 8 rfl)⟩
              | 12, _, _ => exact .inl ⟨rfl, ⟨_, op_mul (by unfold Fit; omega) rfl (hd 10 rfl) (hd 11 rfl), rfl⟩⟩
              | 13, _, _ => exact .inl ⟨rfl, pure_b (int_eq (by show a * 1 - b * 1 = _; simp only [axi]; omega)) (⟨_, op_sub (by unfold Fit; omega) rfl (hd 9 rfl) (hd 12 rfl), rfl⟩)⟩
              | qi + 14, h, _ => omega
            · intro vs X6 hb hv hal hne
              have HL0 := Hd.mk (HE.out.lt)
              have HBW := HB
              replace HB := Hd.mk (bel_then HB.out hb)
              replace HE : Hd (Env X6 [⟨w.heap.size, 95, [.int .i64 0, .int .i64 1, .int .i64 1, .int .i64 0]⟩]) := ⟨HE.out.to hb⟩
              have HLS := HL0
              have e26 : vs 26 = .int .i64 (far 3 a b) := hv 6 (by decide) rfl
              have e33 : vs 33 = .int .i64 (axi 3 a b) := hv 13 (by decide) rfl
              simp only [putAll, List.foldl_cons, List.foldl_nil, Act.put, List.setIfInBounds_toArray, List.set_cons_succ, List.set_cons_zero, List.drop_succ_cons, List.drop_zero, e26, e33]
              generalize vs 20 = s20
              generalize vs 21 = s21
              generalize vs 22 = s22
              generalize vs 23 = s23
              generalize vs 24 = s24
              generalize vs 25 = s25
              generalize vs 27 = s27
              generalize vs 28 = s28
              generalize vs 29 = s29
              generalize vs 30 = s30
              generalize vs 31 = s31
              generalize vs 32 = s32
              clear hv hal hne hb HL0 HBW HLS e26 e33
              go_wp2_with fail
              refine bodyPost_ret (v := .tuple #[.int .i64 (far 3 a b), .int .i64 (axi 3 a b)]) (by simp [results, Try.results87, go_sem]) rfl ?_
              exact ⟨_, rfl, HB.out, _, _, rfl, rfl, rfl⟩
theorem along_got (T : Nat) (a b : Int) (hT : T < 4) (ha : -200 ≤ a ∧ a ≤ 200) (hb : -200 ≤ b ∧ b ≤ 200) (w : World) :
    Calls Try.prog 87 #[.agg #[.int .i64 (lin true T).a, .int .i64 (lin true T).b, .int .i64 (lin true T).c, .int .i64 (lin true T).d], .int .i64 a, .int .i64 b] w (Got w (isP (isV (.int .i64 (far T a b))) (isV (.int .i64 (axi T a b)))).p) := by
  rcases four hT with rfl | rfl | rfl | rfl
  · exact along0 a b ha hb w
  · exact along1 a b ha hb w
  · exact along2 a b ha hb w
  · exact along3 a b ha hb w
end Go.Proofs.Ytddbmckbankmeaa
