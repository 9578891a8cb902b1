/- Part 7 of the texts behind this claim. -/
import Derived.Test.YtddbmckbankmeaaKm6
set_option linter.unusedVariables false
set_option linter.unusedSimpArgs false
namespace Go.Proofs.Ytddbmckbankmeaa
open Go.RowKit
def validB (W H : Int) (xs : List Int) : Bool := sizeB W H && (decide ((xs.length : Int) = W * H) && !xs.any badc)
theorem sizeB_bounds {W H : Int} (h : sizeB W H = true) : (1 ≤ W ∧ W ≤ 8) ∧ 1 ≤ H ∧ H ≤ 8 := by
  unfold sizeB at h
  simp only [Bool.and_eq_true, decide_eq_true_eq] at h
  exact h
theorem size_mul {W H : Int} (h : sizeB W H = true) : 0 ≤ W * H ∧ W * H ≤ 64 := by
  have := sizeB_bounds h
  exact mul_small (by omega) (by omega)
section
variable {w : World} {g n i : Nat} {t : TypeId} {xs : List Int} {rest : List Value} {b : Int} {L : List Ent}
theorem ints_at {xs : List Int} (rest : List Value) (h : n < xs.length) : (ints xs ++ rest)[n]? = some (.int .i64 (xs.getD n 0)) := by
  rw [List.getElem?_append_left (by rw [ints_length]; exact h), ints_get xs h]
theorem sto_at (hb : Blk w g t (ints xs ++ rest)) (h : n < xs.length) : (Instr.storeAt 3 (.pointer (some (Addr.add ⟨g, 0, none⟩ n))) (.int .i64 b)).run Try.prog w = .ok () (putL w g n [.int .i64 b]) := by
  rw [addr_zero]
  exact sto_I hb (ints_at rest h)
theorem Env.putI (k : Env w L) (i : Nat) (hi : L[i]? = some ⟨g, t, ints xs ++ rest⟩) (h : n < xs.length) : Env (putL w g n [.int .i64 b]) (L.set i ⟨g, t, ints (xs.set n b) ++ rest⟩) := by
  have h2 := k.putO (o := n) (v := .int .i64 b) i hi
  rwa [List.set_append_left _ _ (by rw [ints_length]; exact h), ints_set] at h2
end
def apS (ft : Int → Int) (xs : List Int) : Nat → List Int
  | 0 => List.replicate xs.length 0
  | k + 1 => (apS ft xs k).set (ft k).toNat (xs.getD k 0)
theorem apS_length (ft : Int → Int) (xs : List Int) : ∀ k, (apS ft xs k).length = xs.length
  | 0 => by simp [apS]
  | k + 1 => by simp [apS, apS_length ft xs k]
set_option maxRecDepth 100000 in
set_option maxHeartbeats 1000000 in
theorem Valid_got (Wd Ht : Int) (A : Option Addr) (k : Nat) (xs : List Int) (w : World) (hri : RI w A xs) :
    Calls Try.prog 16 #[.agg #[.int .i64 Wd, .int .i64 Ht, .slice A xs.length k]] w (Got w (isV (.bool (validB Wd Ht xs))).p) := by
  have HRI := Hd.mk hri
  clear hri
  by_cases h1 : sizeB Wd Ht = true
  · have m1 := size_mul h1
    have K1 := Hd.mk h1
    by_cases h2 : (xs.length : Int) = Wd * Ht
    · have K2 := Hd.mk (decide_eq_true h2)
      have hl : xs.length ≤ 64 := by omega
      by_cases h3 : xs.any badc = true
      · rw [show validB Wd Ht xs = false by unfold validB; rw [h1, decide_eq_true h2, h3]; rfl]
        have K3 := Hd.mk h3
        clear h1 h2 h3
        go_enter Try.func16, Try.ntmps16
        go_upto_region 1 with fail
        obtain ⟨W0, hW0⟩ : ∃ W : World, W = w.alloc (.cells #[.int .i64 Wd, .int .i64 Ht, .slice A xs.length k] 27) := ⟨_, rfl⟩
        rw [← hW0]
        obtain ⟨he, hb⟩ := env_one hW0
        have HE := Hd.mk he
        have HB := Hd.mk hb
        clear he hb hW0
        refine wp_region_vd 20 [3, 4, 5, 6, 7, 8, 9, 10, 11, 12, 13, 14, 15, 16, 17, 18, 19, 20, 21, 22] [3, 4, 7, 9, 11, 12, 13, 14, 15, 18, 19] [] 84 [.int .i64 0, .int .i64 0] [isV (.agg #[.int .i64 Wd, .int .i64 Ht, .slice A xs.length k]), isV (.agg #[.int .i64 Wd, .int .i64 Ht]), isV (.bool true), isV (.bool true), isV (.pointer (some ⟨w.heap.size, 2, none⟩)), isV (.slice A xs.length k), isV (.int .i64 (((xs.length : Nat) : Int))), isV (.pointer (some ⟨w.heap.size, 0, none⟩)), isV (.int .i64 Wd), isV (.pointer (some ⟨w.heap.size, 1, none⟩)), isV (.int .i64 Ht), isV (.int .i64 (Wd * Ht)), isV (.bool true), isV (.bool true), isV (.bool true), isV (.pointer (some ⟨w.heap.size, 2, none⟩)), isV (.slice A xs.length k), isV (.bool true), isV (.bool false), isV (.bool false)] (by rfl) alloc_Z ?_ ?_
        · intro qi qh qA aa wx hb hs hd
          match qi, qh, qA with
          | 0, _, _ => exact .inl ⟨rfl, op_ldT rfl rfl (hs 1 rfl) ((HE.out.to hb).get 0 rfl)⟩
          | 1, _, _ => exact .inl ⟨rfl, op_call1 rfl rfl Try.call50 (by rw [(show aa.eval (.tmp 3) = .agg #[.int .i64 Wd, .int .i64 Ht, .slice A xs.length k] from (hd 0 rfl))]; exact size_got Wd Ht A xs.length k _)⟩
          | 2, _, _ => exact .inl ⟨rfl, wp_b (bool_eq K1.out) (op_call1 rfl rfl Try.call53 (by rw [(show aa.eval (.tmp 4) = .agg #[.int .i64 Wd, .int .i64 Ht] from (hd 1 rfl))]; exact valid_got Wd Ht _))⟩
          | 3, _, _ => exact .inl ⟨rfl, op_mv rfl (hd 2 rfl)⟩
          | 4, _, _ => exact .inl ⟨⟨rfl, .inl (hd 3 rfl)⟩, ⟨_, op_faT2 rfl (hs 1 rfl), rfl⟩⟩
          | 5, _, _ => exact .inl ⟨⟨rfl, .inl (hd 3 rfl)⟩, op_ldS rfl rfl (hd 4 rfl) ((HE.out.to hb).cell 0 2 rfl rfl)⟩
          | 6, _, _ => exact .inl ⟨⟨rfl, .inl (hd 3 rfl)⟩, op_len rfl rfl (hd 5 rfl)⟩
          | 7, _, _ => exact .inl ⟨⟨rfl, .inl (hd 3 rfl)⟩, ⟨_, op_faT0 rfl (hs 1 rfl), rfl⟩⟩
          | 8, _, _ => exact .inl ⟨⟨rfl, .inl (hd 3 rfl)⟩, op_ldI rfl rfl (hd 7 rfl) ((HE.out.to hb).cell 0 0 rfl rfl)⟩
          | 9, _, _ => exact .inl ⟨⟨rfl, .inl (hd 3 rfl)⟩, ⟨_, op_faT1 rfl (hs 1 rfl), rfl⟩⟩
          | 10, _, _ => exact .inl ⟨⟨rfl, .inl (hd 3 rfl)⟩, op_ldI rfl rfl (hd 9 rfl) ((HE.out.to hb).cell 0 1 rfl rfl)⟩
          | 11, _, _ => exact .inl ⟨⟨rfl, .inl (hd 3 rfl)⟩, ⟨_, op_mul (by unfold Fit; omega) rfl (hd 8 rfl) (hd 10 rfl), rfl⟩⟩
          | 12, _, _ => exact .inl ⟨⟨rfl, .inl (hd 3 rfl)⟩, pure_b (bool_eq K2.out) (⟨_, op_eqlI rfl (hd 6 rfl) (hd 11 rfl), rfl⟩)⟩
          | 13, _, _ => exact .inl ⟨rfl, ⟨_, op_pickT rfl (hd 3 rfl) (hd 12 rfl), rfl⟩⟩
          | 14, _, _ => exact .inl ⟨rfl, op_mv rfl (hd 13 rfl)⟩
          | 15, _, _ => exact .inl ⟨⟨rfl, .inl (hd 14 rfl)⟩, ⟨_, op_faT2 rfl (hs 1 rfl), rfl⟩⟩
          | 16, _, _ => exact .inl ⟨⟨rfl, .inl (hd 14 rfl)⟩, op_ldS rfl rfl (hd 15 rfl) ((HE.out.to hb).cell 0 2 rfl rfl)⟩
          | 17, _, _ => exact .inl ⟨⟨rfl, .inl (hd 14 rfl)⟩, wp_b (bool_eq K3.out) (op_call2 rfl rfl Try.call54 (by rw [(show aa.eval (.tmp 19) = .slice A xs.length k from (hd 16 rfl))]; exact cont_got A k xs _ (HRI.out.to (bel_then HB.out hb)) (by omega)))⟩
          | 18, _, _ => exact .inl ⟨⟨rfl, .inl (hd 14 rfl)⟩, ⟨_, op_not rfl (hd 17 rfl), rfl⟩⟩
          | 19, _, _ => exact .inl ⟨rfl, ⟨_, op_pickT rfl (hd 14 rfl) (hd 18 rfl), rfl⟩⟩
          | qi + 20, h, _ => omega
        intro vs X1 hb hv hal hne
        replace HB := Hd.mk (bel_then HB.out hb)
        replace HE := Hd.mk (HE.out.to hb)
        have e22 : vs 22 = .bool false := hv 19 (by decide) rfl
        simp only [PA, e22]
        clear hv hal hne hb e22
        go_wp2_with fail
        go_ret
        exact ⟨_, rfl, HB.out, rfl⟩
      have h3' : xs.any badc = false := by simpa using h3
      rw [show validB Wd Ht xs = true by unfold validB; rw [h1, decide_eq_true h2, h3']; rfl]
      have K3 := Hd.mk h3'
      clear h1 h2 h3 h3'
      go_enter Try.func16, Try.ntmps16
      go_upto_region 1 with fail
      obtain ⟨W0, hW0⟩ : ∃ W : World, W = w.alloc (.cells #[.int .i64 Wd, .int .i64 Ht, .slice A xs.length k] 27) := ⟨_, rfl⟩
      rw [← hW0]
      obtain ⟨he, hb⟩ := env_one hW0
      have HE := Hd.mk he
      have HB := Hd.mk hb
      clear he hb hW0
      refine wp_region_vd 20 [3, 4, 5, 6, 7, 8, 9, 10, 11, 12, 13, 14, 15, 16, 17, 18, 19, 20, 21, 22] [3, 4, 7, 9, 11, 12, 13, 14, 15, 18, 19] [] 84 [.int .i64 0, .int .i64 0] [isV (.agg #[.int .i64 Wd, .int .i64 Ht, .slice A xs.length k]), isV (.agg #[.int .i64 Wd, .int .i64 Ht]), isV (.bool true), isV (.bool true), isV (.pointer (some ⟨w.heap.size, 2, none⟩)), isV (.slice A xs.length k), isV (.int .i64 (((xs.length : Nat) : Int))), isV (.pointer (some ⟨w.heap.size, 0, none⟩)), isV (.int .i64 Wd), isV (.pointer (some ⟨w.heap.size, 1, none⟩)), isV (.int .i64 Ht), isV (.int .i64 (Wd * Ht)), isV (.bool true), isV (.bool true), isV (.bool true), isV (.pointer (some ⟨w.heap.size, 2, none⟩)), isV (.slice A xs.length k), isV (.bool false), isV (.bool true), isV (.bool true)] (by rfl) alloc_Z ?_ ?_
      · intro qi qh qA aa wx hb hs hd
        match qi, qh, qA with
        | 0, _, _ => exact .inl ⟨rfl, op_ldT rfl rfl (hs 1 rfl) ((HE.out.to hb).get 0 rfl)⟩
        | 1, _, _ => exact .inl ⟨rfl, op_call1 rfl rfl Try.call50 (by rw [(show aa.eval (.tmp 3) = .agg #[.int .i64 Wd, .int .i64 Ht, .slice A xs.length k] from (hd 0 rfl))]; exact size_got Wd Ht A xs.length k _)⟩
        | 2, _, _ => exact .inl ⟨rfl, wp_b (bool_eq K1.out) (op_call1 rfl rfl Try.call53 (by rw [(show aa.eval (.tmp 4) = .agg #[.int .i64 Wd, .int .i64 Ht] from (hd 1 rfl))]; exact valid_got Wd Ht _))⟩
        | 3, _, _ => exact .inl ⟨rfl, op_mv rfl (hd 2 rfl)⟩
        | 4, _, _ => exact .inl ⟨⟨rfl, .inl (hd 3 rfl)⟩, ⟨_, op_faT2 rfl (hs 1 rfl), rfl⟩⟩
        | 5, _, _ => exact .inl ⟨⟨rfl, .inl (hd 3 rfl)⟩, op_ldS rfl rfl (hd 4 rfl) ((HE.out.to hb).cell 0 2 rfl rfl)⟩
        | 6, _, _ => exact .inl ⟨⟨rfl, .inl (hd 3 rfl)⟩, op_len rfl rfl (hd 5 rfl)⟩
        | 7, _, _ => exact .inl ⟨⟨rfl, .inl (hd 3 rfl)⟩, ⟨_, op_faT0 rfl (hs 1 rfl), rfl⟩⟩
        | 8, _, _ => exact .inl ⟨⟨rfl, .inl (hd 3 rfl)⟩, op_ldI rfl rfl (hd 7 rfl) ((HE.out.to hb).cell 0 0 rfl rfl)⟩
        | 9, _, _ => exact .inl ⟨⟨rfl, .inl (hd 3 rfl)⟩, ⟨_, op_faT1 rfl (hs 1 rfl), rfl⟩⟩
        | 10, _, _ => exact .inl ⟨⟨rfl, .inl (hd 3 rfl)⟩, op_ldI rfl rfl (hd 9 rfl) ((HE.out.to hb).cell 0 1 rfl rfl)⟩
        | 11, _, _ => exact .inl ⟨⟨rfl, .inl (hd 3 rfl)⟩, ⟨_, op_mul (by unfold Fit; omega) rfl (hd 8 rfl) (hd 10 rfl), rfl⟩⟩
        | 12, _, _ => exact .inl ⟨⟨rfl, .inl (hd 3 rfl)⟩, pure_b (bool_eq K2.out) (⟨_, op_eqlI rfl (hd 6 rfl) (hd 11 rfl), rfl⟩)⟩
        | 13, _, _ => exact .inl ⟨rfl, ⟨_, op_pickT rfl (hd 3 rfl) (hd 12 rfl), rfl⟩⟩
        | 14, _, _ => exact .inl ⟨rfl, op_mv rfl (hd 13 rfl)⟩
        | 15, _, _ => exact .inl ⟨⟨rfl, .inl (hd 14 rfl)⟩, ⟨_, op_faT2 rfl (hs 1 rfl), rfl⟩⟩
        | 16, _, _ => exact .inl ⟨⟨rfl, .inl (hd 14 rfl)⟩, op_ldS rfl rfl (hd 15 rfl) ((HE.out.to hb).cell 0 2 rfl rfl)⟩
        | 17, _, _ => exact .inl ⟨⟨rfl, .inl (hd 14 rfl)⟩, wp_b (bool_eq K3.out) (op_call2 rfl rfl Try.call54 (by rw [(show aa.eval (.tmp 19) = .slice A xs.length k from (hd 16 rfl))]; exact cont_got A k xs _ (HRI.out.to (bel_then HB.out hb)) (by omega)))⟩
        | 18, _, _ => exact .inl ⟨⟨rfl, .inl (hd 14 rfl)⟩, ⟨_, op_not rfl (hd 17 rfl), rfl⟩⟩
        | 19, _, _ => exact .inl ⟨rfl, ⟨_, op_pickT rfl (hd 14 rfl) (hd 18 rfl), rfl⟩⟩
        | qi + 20, h, _ => omega
      intro vs X1 hb hv hal hne
      replace HB := Hd.mk (bel_then HB.out hb)
      replace HE := Hd.mk (HE.out.to hb)
      have e22 : vs 22 = .bool true := hv 19 (by decide) rfl
      simp only [PA, e22]
      clear hv hal hne hb e22
      go_wp2_with fail
      go_ret
      exact ⟨_, rfl, HB.out, rfl⟩
    have K2 := Hd.mk (decide_eq_false h2)
    rw [show validB Wd Ht xs = false by unfold validB; rw [h1, decide_eq_false h2]; rfl]
    clear h1 h2
    go_enter Try.func16, Try.ntmps16
    go_upto_region 1 with fail
    obtain ⟨W0, hW0⟩ : ∃ W : World, W = w.alloc (.cells #[.int .i64 Wd, .int .i64 Ht, .slice A xs.length k] 27) := ⟨_, rfl⟩
    rw [← hW0]
    obtain ⟨he, hb⟩ := env_one hW0
    have HE := Hd.mk he
    have HB := Hd.mk hb
    clear he hb hW0
    refine wp_region_vd 20 [3, 4, 5, 6, 7, 8, 9, 10, 11, 12, 13, 14, 15, 16, 17, 18, 19, 20, 21, 22] [3, 4, 7, 9, 11, 12, 13, 14, 19] [] 84 [.int .i64 0, .int .i64 0] [isV (.agg #[.int .i64 Wd, .int .i64 Ht, .slice A xs.length k]), isV (.agg #[.int .i64 Wd, .int .i64 Ht]), isV (.bool true), isV (.bool true), isV (.pointer (some ⟨w.heap.size, 2, none⟩)), isV (.slice A xs.length k), isV (.int .i64 (((xs.length : Nat) : Int))), isV (.pointer (some ⟨w.heap.size, 0, none⟩)), isV (.int .i64 Wd), isV (.pointer (some ⟨w.heap.size, 1, none⟩)), isV (.int .i64 Ht), isV (.int .i64 (Wd * Ht)), isV (.bool false), isV (.bool false), isV (.bool false), isV undef, isV undef, isV undef, isV undef, isV (.bool false)] (by rfl) alloc_Z ?_ ?_
    · intro qi qh qA aa wx hb hs hd
      match qi, qh, qA with
      | 0, _, _ => exact .inl ⟨rfl, op_ldT rfl rfl (hs 1 rfl) ((HE.out.to hb).get 0 rfl)⟩
      | 1, _, _ => exact .inl ⟨rfl, op_call1 rfl rfl Try.call50 (by rw [(show aa.eval (.tmp 3) = .agg #[.int .i64 Wd, .int .i64 Ht, .slice A xs.length k] from (hd 0 rfl))]; exact size_got Wd Ht A xs.length k _)⟩
      | 2, _, _ => exact .inl ⟨rfl, wp_b (bool_eq K1.out) (op_call1 rfl rfl Try.call53 (by rw [(show aa.eval (.tmp 4) = .agg #[.int .i64 Wd, .int .i64 Ht] from (hd 1 rfl))]; exact valid_got Wd Ht _))⟩
      | 3, _, _ => exact .inl ⟨rfl, op_mv rfl (hd 2 rfl)⟩
      | 4, _, _ => exact .inl ⟨⟨rfl, .inl (hd 3 rfl)⟩, ⟨_, op_faT2 rfl (hs 1 rfl), rfl⟩⟩
      | 5, _, _ => exact .inl ⟨⟨rfl, .inl (hd 3 rfl)⟩, op_ldS rfl rfl (hd 4 rfl) ((HE.out.to hb).cell 0 2 rfl rfl)⟩
      | 6, _, _ => exact .inl ⟨⟨rfl, .inl (hd 3 rfl)⟩, op_len rfl rfl (hd 5 rfl)⟩
      | 7, _, _ => exact .inl ⟨⟨rfl, .inl (hd 3 rfl)⟩, ⟨_, op_faT0 rfl (hs 1 rfl), rfl⟩⟩
      | 8, _, _ => exact .inl ⟨⟨rfl, .inl (hd 3 rfl)⟩, op_ldI rfl rfl (hd 7 rfl) ((HE.out.to hb).cell 0 0 rfl rfl)⟩
      | 9, _, _ => exact .inl ⟨⟨rfl, .inl (hd 3 rfl)⟩, ⟨_, op_faT1 rfl (hs 1 rfl), rfl⟩⟩
      | 10, _, _ => exact .inl ⟨⟨rfl, .inl (hd 3 rfl)⟩, op_ldI rfl rfl (hd 9 rfl) ((HE.out.to hb).cell 0 1 rfl rfl)⟩
      | 11, _, _ => exact .inl ⟨⟨rfl, .inl (hd 3 rfl)⟩, ⟨_, op_mul (by unfold Fit; omega) rfl (hd 8 rfl) (hd 10 rfl), rfl⟩⟩
      | 12, _, _ => exact .inl ⟨⟨rfl, .inl (hd 3 rfl)⟩, pure_b (bool_eq K2.out) (⟨_, op_eqlI rfl (hd 6 rfl) (hd 11 rfl), rfl⟩)⟩
      | 13, _, _ => exact .inl ⟨rfl, ⟨_, op_pickT rfl (hd 3 rfl) (hd 12 rfl), rfl⟩⟩
      | 14, _, _ => exact .inl ⟨rfl, op_mv rfl (hd 13 rfl)⟩
      | 15, _, _ => exact .inr ⟨⟨rfl, .inl (hd 14 rfl)⟩, rfl⟩
      | 16, _, _ => exact .inr ⟨⟨rfl, .inl (hd 14 rfl)⟩, rfl⟩
      | 17, _, _ => exact .inr ⟨⟨rfl, .inl (hd 14 rfl)⟩, rfl⟩
      | 18, _, _ => exact .inr ⟨⟨rfl, .inl (hd 14 rfl)⟩, rfl⟩
      | 19, _, _ => exact .inl ⟨rfl, ⟨_, op_pickF rfl (hd 14 rfl) rfl, rfl⟩⟩
      | qi + 20, h, _ => omega
    intro vs X1 hb hv hal hne
    replace HB := Hd.mk (bel_then HB.out hb)
    replace HE := Hd.mk (HE.out.to hb)
    have e22 : vs 22 = .bool false := hv 19 (by decide) rfl
    simp only [PA, e22]
    clear hv hal hne hb e22
    go_wp2_with fail
    go_ret
    exact ⟨_, rfl, HB.out, rfl⟩
  have h1' : sizeB Wd Ht = false := by simpa using h1
  have K1 := Hd.mk h1'
  rw [show validB Wd Ht xs = false by unfold validB; rw [h1']; rfl]
  clear h1 h1'
  go_enter Try.func16, Try.ntmps16
  go_upto_region 1 with fail
  obtain ⟨W0, hW0⟩ : ∃ W : World, W = w.alloc (.cells #[.int .i64 Wd, .int .i64 Ht, .slice A xs.length k] 27) := ⟨_, rfl⟩
  rw [← hW0]
  obtain ⟨he, hb⟩ := env_one hW0
  have HE := Hd.mk he
  have HB := Hd.mk hb
  clear he hb hW0
  refine wp_region_vd 20 [3, 4, 5, 6, 7, 8, 9, 10, 11, 12, 13, 14, 15, 16, 17, 18, 19, 20, 21, 22] [3, 13, 14, 19] [] 84 [.int .i64 0, .int .i64 0] [isV (.agg #[.int .i64 Wd, .int .i64 Ht, .slice A xs.length k]), isV (.agg #[.int .i64 Wd, .int .i64 Ht]), isV (.bool false), isV (.bool false), isV undef, isV undef, isV undef, isV undef, isV undef, isV undef, isV undef, isV undef, isV undef, isV (.bool false), isV (.bool false), isV undef, isV undef, isV undef, isV undef, isV (.bool false)] (by rfl) alloc_Z ?_ ?_
  · intro qi qh qA aa wx hb hs hd
    match qi, qh, qA with
    | 0, _, _ => exact .inl ⟨rfl, op_ldT rfl rfl (hs 1 rfl) ((HE.out.to hb).get 0 rfl)⟩
    | 1, _, _ => exact .inl ⟨rfl, op_call1 rfl rfl Try.call50 (by rw [(show aa.eval (.tmp 3) = .agg #[.int .i64 Wd, .int .i64 Ht, .slice A xs.length k] from (hd 0 rfl))]; exact size_got Wd Ht A xs.length k _)⟩
    | 2, _, _ => exact .inl ⟨rfl, wp_b (bool_eq K1.out) (op_call1 rfl rfl Try.call53 (by rw [(show aa.eval (.tmp 4) = .agg #[.int .i64 Wd, .int .i64 Ht] from (hd 1 rfl))]; exact valid_got Wd Ht _))⟩
    | 3, _, _ => exact .inl ⟨rfl, op_mv rfl (hd 2 rfl)⟩
    | 4, _, _ => exact .inr ⟨⟨rfl, .inl (hd 3 rfl)⟩, rfl⟩
    | 5, _, _ => exact .inr ⟨⟨rfl, .inl (hd 3 rfl)⟩, rfl⟩
    | 6, _, _ => exact .inr ⟨⟨rfl, .inl (hd 3 rfl)⟩, rfl⟩
    | 7, _, _ => exact .inr ⟨⟨rfl, .inl (hd 3 rfl)⟩, rfl⟩
    | 8, _, _ => exact .inr ⟨⟨rfl, .inl (hd 3 rfl)⟩, rfl⟩
    | 9, _, _ => exact .inr ⟨⟨rfl, .inl (hd 3 rfl)⟩, rfl⟩
    | 10, _, _ => exact .inr ⟨⟨rfl, .inl (hd 3 rfl)⟩, rfl⟩
    | 11, _, _ => exact .inr ⟨⟨rfl, .inl (hd 3 rfl)⟩, rfl⟩
    | 12, _, _ => exact .inr ⟨⟨rfl, .inl (hd 3 rfl)⟩, rfl⟩
    | 13, _, _ => exact .inl ⟨rfl, ⟨_, op_pickF rfl (hd 3 rfl) rfl, rfl⟩⟩
    | 14, _, _ => exact .inl ⟨rfl, op_mv rfl (hd 13 rfl)⟩
    | 15, _, _ => exact .inr ⟨⟨rfl, .inl (hd 14 rfl)⟩, rfl⟩
    | 16, _, _ => exact .inr ⟨⟨rfl, .inl (hd 14 rfl)⟩, rfl⟩
    | 17, _, _ => exact .inr ⟨⟨rfl, .inl (hd 14 rfl)⟩, rfl⟩
    | 18, _, _ => exact .inr ⟨⟨rfl, .inl (hd 14 rfl)⟩, rfl⟩
    | 19, _, _ => exact .inl ⟨rfl, ⟨_, op_pickF rfl (hd 14 rfl) rfl, rfl⟩⟩
    | qi + 20, h, _ => omega
  intro vs X1 hb hv hal hne
  replace HB := Hd.mk (bel_then HB.out hb)
  replace HE := Hd.mk (HE.out.to hb)
  have e22 : vs 22 = .bool false := hv 19 (by decide) rfl
  simp only [PA, e22]
  clear hv hal hne hb e22
  go_wp2_with fail
  go_ret
  exact ⟨_, rfl, HB.out, rfl⟩
set_option maxRecDepth 100000 in
set_option maxHeartbeats 1000000 in
theorem stsame_got (Wd Ht : Int) (A : Option Addr) (k : Nat) (xs : List Int) (Wd' Ht' : Int) (A' : Option Addr) (k' : Nat) (ys : List Int) (w : World) (hri : RI w A xs) (hrj : RI w A' ys) (hl1 : xs.length ≤ 1000000) (hl2 : ys.length ≤ 1000000) :
    Calls Try.prog 20 #[.agg #[.int .i64 Wd, .int .i64 Ht, .slice A xs.length k], .agg #[.int .i64 Wd', .int .i64 Ht', .slice A' ys.length k']] w (Got w (isV (.bool (decide (Wd = Wd') && decide (Ht = Ht') && decide (xs = ys)))).p) := by
  have HRI := Hd.mk hri
  have HRJ := Hd.mk hrj
  clear hri hrj
  by_cases h1 : Wd = Wd'
  · have K1 := Hd.mk (decide_eq_true h1)
    by_cases h2 : Ht = Ht'
    · have K2 := Hd.mk (decide_eq_true h2)
      rw [show (decide (Wd = Wd') && decide (Ht = Ht') && decide (xs = ys)) = decide (xs = ys) by rw [decide_eq_true h1, decide_eq_true h2]; rfl]
      clear h1 h2
      obtain ⟨bq, hbq⟩ : ∃ b, b = decide (xs = ys) := ⟨_, rfl⟩
      rw [← hbq]
      have KB := Hd.mk hbq.symm
      clear hbq
      go_enter Try.func20, Try.ntmps20
      go_upto_region 1 with fail
      obtain ⟨W0, hW0⟩ : ∃ W : World, W = (w.alloc (.cells #[.int .i64 Wd, .int .i64 Ht, .slice A xs.length k] 24)).alloc (.cells #[.int .i64 Wd', .int .i64 Ht', .slice A' ys.length k'] 24) := ⟨_, rfl⟩
      rw [← hW0]
      obtain ⟨he, hb⟩ := env_two hW0
      have HE := Hd.mk he
      have HB := Hd.mk hb
      clear he hb hW0
      refine wp_region_vd 19 [5, 6, 7, 8, 9, 10, 11, 12, 13, 14, 15, 16, 17, 18, 19, 20, 21, 22, 23] [0, 2, 4, 5, 6, 8, 10, 11, 12, 13, 15, 18] [] 84 [.int .i64 0, .int .i64 0] [isV (.pointer (some ⟨w.heap.size, 0, none⟩)), isV (.int .i64 Wd), isV (.pointer (some ⟨w.heap.size + 1, 0, none⟩)), isV (.int .i64 Wd'), isV (.bool true), isV (.bool true), isV (.pointer (some ⟨w.heap.size, 1, none⟩)), isV (.int .i64 Ht), isV (.pointer (some ⟨w.heap.size + 1, 1, none⟩)), isV (.int .i64 Ht'), isV (.bool true), isV (.bool true), isV (.bool true), isV (.pointer (some ⟨w.heap.size, 2, none⟩)), isV (.slice A xs.length k), isV (.pointer (some ⟨w.heap.size + 1, 2, none⟩)), isV (.slice A' ys.length k'), isV (.bool bq), isV (.bool bq)] (by rfl) alloc_Z ?_ ?_
      · intro qi qh qA aa wx hb hs hd
        match qi, qh, qA with
        | 0, _, _ => exact .inl ⟨rfl, ⟨_, op_faU0 rfl (hs 2 rfl), rfl⟩⟩
        | 1, _, _ => exact .inl ⟨rfl, op_ldI rfl rfl (hd 0 rfl) ((HE.out.to hb).cell 0 0 rfl rfl)⟩
        | 2, _, _ => exact .inl ⟨rfl, ⟨_, op_faU0 rfl (hs 3 rfl), rfl⟩⟩
        | 3, _, _ => exact .inl ⟨rfl, op_ldI rfl rfl (hd 2 rfl) ((HE.out.to hb).cell 1 0 rfl rfl)⟩
        | 4, _, _ => exact .inl ⟨rfl, pure_b (bool_eq K1.out) (⟨_, op_eqlI rfl (hd 1 rfl) (hd 3 rfl), rfl⟩)⟩
        | 5, _, _ => exact .inl ⟨rfl, op_mv rfl (hd 4 rfl)⟩
        | 6, _, _ => exact .inl ⟨⟨rfl, .inl (hd 5 rfl)⟩, ⟨_, op_faU1 rfl (hs 2 rfl), rfl⟩⟩
        | 7, _, _ => exact .inl ⟨⟨rfl, .inl (hd 5 rfl)⟩, op_ldI rfl rfl (hd 6 rfl) ((HE.out.to hb).cell 0 1 rfl rfl)⟩
        | 8, _, _ => exact .inl ⟨⟨rfl, .inl (hd 5 rfl)⟩, ⟨_, op_faU1 rfl (hs 3 rfl), rfl⟩⟩
        | 9, _, _ => exact .inl ⟨⟨rfl, .inl (hd 5 rfl)⟩, op_ldI rfl rfl (hd 8 rfl) ((HE.out.to hb).cell 1 1 rfl rfl)⟩
        | 10, _, _ => exact .inl ⟨⟨rfl, .inl (hd 5 rfl)⟩, pure_b (bool_eq K2.out) (⟨_, op_eqlI rfl (hd 7 rfl) (hd 9 rfl), rfl⟩)⟩
        | 11, _, _ => exact .inl ⟨rfl, ⟨_, op_pickT rfl (hd 5 rfl) (hd 10 rfl), rfl⟩⟩
        | 12, _, _ => exact .inl ⟨rfl, op_mv rfl (hd 11 rfl)⟩
        | 13, _, _ => exact .inl ⟨⟨rfl, .inl (hd 12 rfl)⟩, ⟨_, op_faU2 rfl (hs 2 rfl), rfl⟩⟩
        | 14, _, _ => exact .inl ⟨⟨rfl, .inl (hd 12 rfl)⟩, op_ldS rfl rfl (hd 13 rfl) ((HE.out.to hb).cell 0 2 rfl rfl)⟩
        | 15, _, _ => exact .inl ⟨⟨rfl, .inl (hd 12 rfl)⟩, ⟨_, op_faU2 rfl (hs 3 rfl), rfl⟩⟩
        | 16, _, _ => exact .inl ⟨⟨rfl, .inl (hd 12 rfl)⟩, op_ldS rfl rfl (hd 15 rfl) ((HE.out.to hb).cell 1 2 rfl rfl)⟩
        | 17, _, _ => exact .inl ⟨⟨rfl, .inl (hd 12 rfl)⟩, wp_b (bool_eq KB.out) (op_call2 rfl rfl Try.call32 (by rw [(show aa.eval (.tmp 19) = .slice A xs.length k from (hd 14 rfl)), (show aa.eval (.tmp 21) = .slice A' ys.length k' from (hd 16 rfl))]; exact equal_got A k xs A' k' ys _ (HRI.out.to (bel_then HB.out hb)) (HRJ.out.to (bel_then HB.out hb)) hl1 hl2))⟩
        | 18, _, _ => exact .inl ⟨rfl, ⟨_, op_pickT rfl (hd 12 rfl) (hd 17 rfl), rfl⟩⟩
        | qi + 19, h, _ => omega
      intro vs X1 hb hv hal hne
      replace HB := Hd.mk (bel_then HB.out hb)
      replace HE := Hd.mk (HE.out.to hb)
      have e23 : vs 23 = .bool bq := hv 18 (by decide) rfl
      simp only [PA, e23]
      clear hv hal hne hb e23
      go_wp2_with fail
      go_ret
      exact ⟨_, rfl, HB.out, rfl⟩
    have K2 := Hd.mk (decide_eq_false h2)
    rw [show (decide (Wd = Wd') && decide (Ht = Ht') && decide (xs = ys)) = false by rw [decide_eq_true h1, decide_eq_false h2]; rfl]
    clear h1 h2
    go_enter Try.func20, Try.ntmps20
    go_upto_region 1 with fail
    obtain ⟨W0, hW0⟩ : ∃ W : World, W = (w.alloc (.cells #[.int .i64 Wd, .int .i64 Ht, .slice A xs.length k] 24)).alloc (.cells #[.int .i64 Wd', .int .i64 Ht', .slice A' ys.length k'] 24) := ⟨_, rfl⟩
    rw [← hW0]
    obtain ⟨he, hb⟩ := env_two hW0
    have HE := Hd.mk he
    have HB := Hd.mk hb
    clear he hb hW0
    refine wp_region_vd 19 [5, 6, 7, 8, 9, 10, 11, 12, 13, 14, 15, 16, 17, 18, 19, 20, 21, 22, 23] [0, 2, 4, 5, 6, 8, 10, 11, 12, 18] [] 84 [.int .i64 0, .int .i64 0] [isV (.pointer (some ⟨w.heap.size, 0, none⟩)), isV (.int .i64 Wd), isV (.pointer (some ⟨w.heap.size + 1, 0, none⟩)), isV (.int .i64 Wd'), isV (.bool true), isV (.bool true), isV (.pointer (some ⟨w.heap.size, 1, none⟩)), isV (.int .i64 Ht), isV (.pointer (some ⟨w.heap.size + 1, 1, none⟩)), isV (.int .i64 Ht'), isV (.bool false), isV (.bool false), isV (.bool false), isV undef, isV undef, isV undef, isV undef, isV undef, isV (.bool false)] (by rfl) alloc_Z ?_ ?_
    · intro qi qh qA aa wx hb hs hd
      match qi, qh, qA with
      | 0, _, _ => exact .inl ⟨rfl, ⟨_, op_faU0 rfl (hs 2 rfl), rfl⟩⟩
      | 1, _, _ => exact .inl ⟨rfl, op_ldI rfl rfl (hd 0 rfl) ((HE.out.to hb).cell 0 0 rfl rfl)⟩
      | 2, _, _ => exact .inl ⟨rfl, ⟨_, op_faU0 rfl (hs 3 rfl), rfl⟩⟩
      | 3, _, _ => exact .inl ⟨rfl, op_ldI rfl rfl (hd 2 rfl) ((HE.out.to hb).cell 1 0 rfl rfl)⟩
      | 4, _, _ => exact .inl ⟨rfl, pure_b (bool_eq K1.out) (⟨_, op_eqlI rfl (hd 1 rfl) (hd 3 rfl), rfl⟩)⟩
      | 5, _, _ => exact .inl ⟨rfl, op_mv rfl (hd 4 rfl)⟩
      | 6, _, _ => exact .inl ⟨⟨rfl, .inl (hd 5 rfl)⟩, ⟨_, op_faU1 rfl (hs 2 rfl), rfl⟩⟩
      | 7, _, _ => exact .inl ⟨⟨rfl, .inl (hd 5 rfl)⟩, op_ldI rfl rfl (hd 6 rfl) ((HE.out.to hb).cell 0 1 rfl rfl)⟩
      | 8, _, _ => exact .inl ⟨⟨rfl, .inl (hd 5 rfl)⟩, ⟨_, op_faU1 rfl (hs 3 rfl), rfl⟩⟩
      | 9, _, _ => exact .inl ⟨⟨rfl, .inl (hd 5 rfl)⟩, op_ldI rfl rfl (hd 8 rfl) ((HE.out.to hb).cell 1 1 rfl rfl)⟩
      | 10, _, _ => exact .inl ⟨⟨rfl, .inl (hd 5 rfl)⟩, pure_b (bool_eq K2.out) (⟨_, op_eqlI rfl (hd 7 rfl) (hd 9 rfl), rfl⟩)⟩
      | 11, _, _ => exact .inl ⟨rfl, ⟨_, op_pickT rfl (hd 5 rfl) (hd 10 rfl), rfl⟩⟩
      | 12, _, _ => exact .inl ⟨rfl, op_mv rfl (hd 11 rfl)⟩
      | 13, _, _ => exact .inr ⟨⟨rfl, .inl (hd 12 rfl)⟩, rfl⟩
      | 14, _, _ => exact .inr ⟨⟨rfl, .inl (hd 12 rfl)⟩, rfl⟩
      | 15, _, _ => exact .inr ⟨⟨rfl, .inl (hd 12 rfl)⟩, rfl⟩
      | 16, _, _ => exact .inr ⟨⟨rfl, .inl (hd 12 rfl)⟩, rfl⟩
      | 17, _, _ => exact .inr ⟨⟨rfl, .inl (hd 12 rfl)⟩, rfl⟩
      | 18, _, _ => exact .inl ⟨rfl, ⟨_, op_pickF rfl (hd 12 rfl) rfl, rfl⟩⟩
      | qi + 19, h, _ => omega
    intro vs X1 hb hv hal hne
    replace HB := Hd.mk (bel_then HB.out hb)
    replace HE := Hd.mk (HE.out.to hb)
    have e23 : vs 23 = .bool false := hv 18 (by decide) rfl
    simp only [PA, e23]
    clear hv hal hne hb e23
    go_wp2_with fail
    go_ret
    exact ⟨_, rfl, HB.out, rfl⟩
  have K1 := Hd.mk (decide_eq_false h1)
  rw [show (decide (Wd = Wd') && decide (Ht = Ht') && decide (xs = ys)) = false by rw [decide_eq_false h1]; rfl]
  clear h1
  go_enter Try.func20, Try.ntmps20
  go_upto_region 1 with fail
  obtain ⟨W0, hW0⟩ : ∃ W : World, W = (w.alloc (.cells #[.int .i64 Wd, .int .i64 Ht, .slice A xs.length k] 24)).alloc (.cells #[.int .i64 Wd', .int .i64 Ht', .slice A' ys.length k'] 24) := ⟨_, rfl⟩
  rw [← hW0]
  obtain ⟨he, hb⟩ := env_two hW0
  have HE := Hd.mk he
  have HB := Hd.mk hb
  clear he hb hW0
  refine wp_region_vd 19 [5, 6, 7, 8, 9, 10, 11, 12, 13, 14, 15, 16, 17, 18, 19, 20, 21, 22, 23] [0, 2, 4, 5, 11, 12, 18] [] 84 [.int .i64 0, .int .i64 0] [isV (.pointer (some ⟨w.heap.size, 0, none⟩)), isV (.int .i64 Wd), isV (.pointer (some ⟨w.heap.size + 1, 0, none⟩)), isV (.int .i64 Wd'), isV (.bool false), isV (.bool false), isV undef, isV undef, isV undef, isV undef, isV undef, isV (.bool false), isV (.bool false), isV undef, isV undef, isV undef, isV undef, isV undef, isV (.bool false)] (by rfl) alloc_Z ?_ ?_
  · intro qi qh qA aa wx hb hs hd
    match qi, qh, qA with
    | 0, _, _ => exact .inl ⟨rfl, ⟨_, op_faU0 rfl (hs 2 rfl), rfl⟩⟩
    | 1, _, _ => exact .inl ⟨rfl, op_ldI rfl rfl (hd 0 rfl) ((HE.out.to hb).cell 0 0 rfl rfl)⟩
    | 2, _, _ => exact .inl ⟨rfl, ⟨_, op_faU0 rfl (hs 3 rfl), rfl⟩⟩
    | 3, _, _ => exact .inl ⟨rfl, op_ldI rfl rfl (hd 2 rfl) ((HE.out.to hb).cell 1 0 rfl rfl)⟩
    | 4, _, _ => exact .inl ⟨rfl, pure_b (bool_eq K1.out) (⟨_, op_eqlI rfl (hd 1 rfl) (hd 3 rfl), rfl⟩)⟩
    | 5, _, _ => exact .inl ⟨rfl, op_mv rfl (hd 4 rfl)⟩
    | 6, _, _ => exact .inr ⟨⟨rfl, .inl (hd 5 rfl)⟩, rfl⟩
    | 7, _, _ => exact .inr ⟨⟨rfl, .inl (hd 5 rfl)⟩, rfl⟩
    | 8, _, _ => exact .inr ⟨⟨rfl, .inl (hd 5 rfl)⟩, rfl⟩
    | 9, _, _ => exact .inr ⟨⟨rfl, .inl (hd 5 rfl)⟩, rfl⟩
    | 10, _, _ => exact .inr ⟨⟨rfl, .inl (hd 5 rfl)⟩, rfl⟩
    | 11, _, _ => exact .inl ⟨rfl, ⟨_, op_pickF rfl (hd 5 rfl) rfl, rfl⟩⟩
    | 12, _, _ => exact .inl ⟨rfl, op_mv rfl (hd 11 rfl)⟩
    | 13, _, _ => exact .inr ⟨⟨rfl, .inl (hd 12 rfl)⟩, rfl⟩
    | 14, _, _ => exact .inr ⟨⟨rfl, .inl (hd 12 rfl)⟩, rfl⟩
    | 15, _, _ => exact .inr ⟨⟨rfl, .inl (hd 12 rfl)⟩, rfl⟩
    | 16, _, _ => exact .inr ⟨⟨rfl, .inl (hd 12 rfl)⟩, rfl⟩
    | 17, _, _ => exact .inr ⟨⟨rfl, .inl (hd 12 rfl)⟩, rfl⟩
    | 18, _, _ => exact .inl ⟨rfl, ⟨_, op_pickF rfl (hd 12 rfl) rfl, rfl⟩⟩
    | qi + 19, h, _ => omega
  intro vs X1 hb hv hal hne
  replace HB := Hd.mk (bel_then HB.out hb)
  replace HE := Hd.mk (HE.out.to hb)
  have e23 : vs 23 = .bool false := hv 18 (by decide) rfl
  simp only [PA, e23]
  clear hv hal hne hb e23
  go_wp2_with fail
  go_ret
  exact ⟨_, rfl, HB.out, rfl⟩
end Go.Proofs.Ytddbmckbankmeaa
set_option linter.unusedVariables false
set_option linter.unusedSimpArgs false
namespace Go.Proofs.Ytddbmckbankmeaa
open Go.RowKit
theorem RI.cellq {w : World} {ad : Addr} {xs : List Int} {q : Nat} (h : RI w (some ad) xs) (hq : q < xs.length) : w.cell? (Addr.add ad ((q : Int)).toNat) = some (.int .i64 (xs.getD q 0)) := by
  obtain ⟨ad', e, hc⟩ := h.at_ hq
  injection e with e
  subst e
  rw [Int.toNat_natCast]
  exact hc
def apL (W H x y t : Int) (f : Bool) (xs : List Int) : List Int := apS (fun q => toC W H x y t f q) xs xs.length
set_option maxRecDepth 100000 in
set_option maxHeartbeats 1000000 in
theorem apply_got (Wd Ht x y t : Int) (f : Bool) (ad : Addr) (k : Nat) (xs : List Int) (w : World) (hri : RI w (some ad) xs) (hk : Okm Wd Ht x y t) (hl : (xs.length : Int) = Wd * Ht) :
    Calls Try.prog 52 #[.agg #[.int .i64 Wd, .int .i64 Ht], .agg #[.int .i64 x, .int .i64 y, .int .i64 t, .bool f], .agg #[.int .i64 Wd, .int .i64 Ht, .slice (some ad) xs.length k]] w (Got w (isFS w.heap.size Wd Ht (apL Wd Ht x y t f xs)).p) := by
  have HRI := Hd.mk hri
  have HK := Hd.mk hk
  have hwb := hk.w
  have hhb := hk.h
  have m1 := mul_small (a := Wd) (b := Ht) (by omega) (by omega)
  clear hri hk
  go_enter Try.func52, Try.ntmps52
  go_upto_region 1 with fail
  obtain ⟨W0, hW0⟩ : ∃ W : World, W = (((w.alloc (.cells #[.int .i64 Wd, .int .i64 Ht] 84)).alloc (.cells #[.int .i64 x, .int .i64 y, .int .i64 t, .bool f] 31)).alloc (.cells #[.int .i64 Wd, .int .i64 Ht, .slice (some ad) xs.length k] 27)).alloc (.cells #[.int .i64 0, .int .i64 0, .slice none 0 0] 27) := ⟨_, rfl⟩
  rw [← hW0]
  obtain ⟨he, hb⟩ := env_four hW0
  have HE := Hd.mk he
  have HB := Hd.mk hb
  clear he hb hW0
  refine wp_region_vs 10 [10, 11, 12, 13, 14, 15, 16, 17, 18, 7] [0, 2, 4, 8] [9] 27 [.int .i64 0, .int .i64 0, .slice none 0 0] [isV (.pointer (some ⟨w.heap.size + 1 + 1, 0, none⟩)), isV (.int .i64 Wd), isV (.pointer (some ⟨w.heap.size + 1 + 1, 1, none⟩)), isV (.int .i64 Ht), isV (.pointer (some ⟨w.heap.size + 1 + 1, 2, none⟩)), isV (.slice (some ad) xs.length k), isV (.int .i64 (((xs.length : Nat) : Int))), isF W0.heap.size (List.replicate xs.length (0 : Int)), isFS W0.heap.size Wd Ht (List.replicate xs.length (0 : Int)), SP.any] (by kernel_rfl) (by kernel_rfl) (by kernel_rfl) (by rfl) alloc_T (fun d v c a w h => by cases d <;> exact h) ?_ ?_
  · intro qi qh qA aa wx hb hs hd
    match qi, qh, qA with
    | 0, _, _ => exact ⟨_, op_faT0 rfl (hs 5 rfl), rfl⟩
    | 1, _, _ => exact op_ldI rfl rfl (hd 0 rfl) ((HE.out.to hb).cell 2 0 rfl rfl)
    | 2, _, _ => exact ⟨_, op_faT1 rfl (hs 5 rfl), rfl⟩
    | 3, _, _ => exact op_ldI rfl rfl (hd 2 rfl) ((HE.out.to hb).cell 2 1 rfl rfl)
    | 4, _, _ => exact ⟨_, op_faT2 rfl (hs 5 rfl), rfl⟩
    | 5, _, _ => exact op_ldS rfl rfl (hd 4 rfl) ((HE.out.to hb).cell 2 2 rfl rfl)
    | 6, _, _ => exact op_len rfl rfl (hd 5 rfl)
    | 7, _, _ => exact op_make (by omega) rfl rfl (hd 6 rfl) (hd 6 rfl) W0.heap.size hb.size
    | 8, _, _ => exact op_buTF rfl (hd 1 rfl) (hd 3 rfl) (hd 7 rfl)
    | 9, _, h => cases h
    | qi + 10, h, _ => omega
  intro vs X1 hb hv hal hne
  have HL0 := Hd.mk (HE.out.lt)
  have HBW := HB
  replace HB := Hd.mk (bel_then HB.out hb)
  replace HE := Hd.mk (HE.out.to hb)
  have t18 : (isFS W0.heap.size Wd Ht (List.replicate xs.length (0 : Int))).p (vs 18) X1 := hv 8 (by decide) rfl
  obtain ⟨g18, k18, rest18, e18, l18, m18, n18, b18⟩ := t18
  replace HE : Hd (Env X1 [⟨w.heap.size, 84, [.int .i64 Wd, .int .i64 Ht]⟩, ⟨w.heap.size + 1, 31, [.int .i64 x, .int .i64 y, .int .i64 t, .bool f]⟩, ⟨w.heap.size + 1 + 1, 27, [.int .i64 Wd, .int .i64 Ht, .slice (some ad) xs.length k]⟩, ⟨w.heap.size + 1 + 1 + 1, 27, [.int .i64 0, .int .i64 0, .slice none 0 0]⟩, ⟨g18, 3, ints (List.replicate xs.length (0 : Int)) ++ rest18⟩]) := ⟨Env.addne (e := ⟨g18, 3, ints (List.replicate xs.length (0 : Int)) ++ rest18⟩) HE.out b18 (fun e' he => Nat.ne_of_lt (Nat.lt_of_lt_of_le (HL0.out e' he) l18))⟩
  have G18 : Hd (w.heap.size ≤ g18) := ⟨Nat.le_trans HBW.out.size l18⟩
  obtain ⟨g7, e7, l7, b7⟩ : ∃ g, vs 7 = .pointer (some ⟨g, 0, none⟩) ∧ _ := hal 9 rfl
  replace HE : Hd (Env X1 [⟨w.heap.size, 84, [.int .i64 Wd, .int .i64 Ht]⟩, ⟨w.heap.size + 1, 31, [.int .i64 x, .int .i64 y, .int .i64 t, .bool f]⟩, ⟨w.heap.size + 1 + 1, 27, [.int .i64 Wd, .int .i64 Ht, .slice (some ad) xs.length k]⟩, ⟨w.heap.size + 1 + 1 + 1, 27, [.int .i64 0, .int .i64 0, .slice none 0 0]⟩, ⟨g18, 3, ints (List.replicate xs.length (0 : Int)) ++ rest18⟩, ⟨g7, 27, [.int .i64 0, .int .i64 0, .slice none 0 0]⟩]) := ⟨Env.addne (e := ⟨g7, 27, [.int .i64 0, .int .i64 0, .slice none 0 0]⟩) HE.out b7 (fun e' he => (List.mem_append.1 (show e' ∈ _ ++ [_] from he)).elim (fun he => Nat.ne_of_lt (Nat.lt_of_lt_of_le (HL0.out e' he) l7)) (fun he => by rw [List.mem_singleton.1 he]; exact blk_ne b18 b7 (by decide)))⟩
  have G7 : Hd (w.heap.size ≤ g7) := ⟨Nat.le_trans HBW.out.size l7⟩
  simp only [PA, e18, e7]
  clear hv hal hne hb HL0 HBW e18 e7 l18 b18 l7 b7
  refine wpList_st rfl rfl rfl rfl rfl (sto_T (HE.out.get 5 rfl)) ?_
  have HE' : Env (putL X1 g7 0 [.int .i64 Wd, .int .i64 Ht, .slice (some ⟨g18, 0, none⟩) ((List.replicate xs.length (0 : Int)).length) k18]) [⟨w.heap.size, 84, [.int .i64 Wd, .int .i64 Ht]⟩, ⟨w.heap.size + 1, 31, [.int .i64 x, .int .i64 y, .int .i64 t, .bool f]⟩, ⟨w.heap.size + 1 + 1, 27, [.int .i64 Wd, .int .i64 Ht, .slice (some ad) xs.length k]⟩, ⟨w.heap.size + 1 + 1 + 1, 27, [.int .i64 0, .int .i64 0, .slice none 0 0]⟩, ⟨g18, 3, ints (List.replicate xs.length (0 : Int)) ++ rest18⟩, ⟨g7, 27, [.int .i64 Wd, .int .i64 Ht, .slice (some ⟨g18, 0, none⟩) ((List.replicate xs.length (0 : Int)).length) k18]⟩] := HE.out.putF 5 rfl rfl
  have HB' := putL_below (show w.heap.size ≤ g7 from G7.out) [.int .i64 Wd, .int .i64 Ht, .slice (some ⟨g18, 0, none⟩) ((List.replicate xs.length (0 : Int)).length) k18] _ 0 HB.out
  generalize putL X1 g7 0 [.int .i64 Wd, .int .i64 Ht, .slice (some ⟨g18, 0, none⟩) ((List.replicate xs.length (0 : Int)).length) k18] = X2 at *
  replace HE := Hd.mk HE'
  replace HB := Hd.mk HB'
  clear HE' HB'
  go_upto_region 2 with fail
  refine wp_region_vd 4 [19, 20, 21, 22] [0, 3] [] 84 [.int .i64 0, .int .i64 0] [isV (.pointer (some ⟨w.heap.size + 1 + 1, 2, none⟩)), isV (.slice (some ad) xs.length k), isV (.int .i64 (((xs.length : Nat) : Int))), isV (.int .i64 0)] (by rfl) alloc_Z ?_ ?_
  · intro qi qh qA aa wx hb hs hd
    match qi, qh, qA with
    | 0, _, _ => exact .inl ⟨rfl, ⟨_, op_faT2 rfl (hs 5 rfl), rfl⟩⟩
    | 1, _, _ => exact .inl ⟨rfl, op_ldS rfl rfl (hd 0 rfl) ((HE.out.to hb).cell 2 2 rfl rfl)⟩
    | 2, _, _ => exact .inl ⟨rfl, op_len rfl rfl (hd 1 rfl)⟩
    | 3, _, _ => exact .inl ⟨rfl, op_mv rfl rfl⟩
    | qi + 4, h, _ => omega
  intro vs X3 hb hv hal hne
  replace HB := Hd.mk (bel_then HB.out hb)
  replace HE := Hd.mk (HE.out.to hb)
  have e20 : vs 20 = .slice (some ad) xs.length k := hv 1 (by decide) rfl
  have e21 : vs 21 = .int .i64 (((xs.length : Nat) : Int)) := hv 2 (by decide) rfl
  have e22 : vs 22 = .int .i64 0 := hv 3 (by decide) rfl
  simp only [PA, e20, e21, e22]
  clear hv hal hne hb e20 e21 e22
  go_wp2_with fail
  go_loopw [8, 9, 22] (fun si sc sq wr => ∃ q : Nat, q ≤ xs.length ∧ sq = .int .i64 q ∧ Env wr [⟨w.heap.size, 84, [.int .i64 Wd, .int .i64 Ht]⟩, ⟨w.heap.size + 1, 31, [.int .i64 x, .int .i64 y, .int .i64 t, .bool f]⟩, ⟨w.heap.size + 1 + 1, 27, [.int .i64 Wd, .int .i64 Ht, .slice (some ad) xs.length k]⟩, ⟨w.heap.size + 1 + 1 + 1, 27, [.int .i64 0, .int .i64 0, .slice none 0 0]⟩, ⟨g18, 3, ints (apS (fun q => toC Wd Ht x y t f q) xs q) ++ rest18⟩, ⟨g7, 27, [.int .i64 Wd, .int .i64 Ht, .slice (some ⟨g18, 0, none⟩) ((List.replicate xs.length (0 : Int)).length) k18]⟩] ∧ Below w.heap.size w wr) (fun _ _ sq _ => xs.length - (intOf sq).toNat)
  case atStart => exact ⟨0, Nat.zero_le _, rfl, HE.out, HB.out⟩
  case round =>
    obtain ⟨q, hq, rfl, he, hb⟩ := hrel
    clear HB HE
    have HB := Hd.mk hb
    have HE : Hd (Env wr [⟨w.heap.size, 84, [.int .i64 Wd, .int .i64 Ht]⟩, ⟨w.heap.size + 1, 31, [.int .i64 x, .int .i64 y, .int .i64 t, .bool f]⟩, ⟨w.heap.size + 1 + 1, 27, [.int .i64 Wd, .int .i64 Ht, .slice (some ad) xs.length k]⟩, ⟨w.heap.size + 1 + 1 + 1, 27, [.int .i64 0, .int .i64 0, .slice none 0 0]⟩, ⟨g18, 3, ints (apS (fun q => toC Wd Ht x y t f q) xs q) ++ rest18⟩, ⟨g7, 27, [.int .i64 Wd, .int .i64 Ht, .slice (some ⟨g18, 0, none⟩) ((List.replicate xs.length (0 : Int)).length) k18]⟩]) := ⟨he⟩
    clear he hb
    have htl := toC_lt (i := (q : Int)) f HK.out
    by_cases hlt : q < xs.length
    · go_upto_region 4 with fail
      refine wp_region_vd 3 [24, 25, 26] [0] [] 84 [.int .i64 0, .int .i64 0] [isV (.int .i64 (((q : Nat) : Int))), isV (.pointer (some (Addr.add ad (((q : Nat) : Int)).toNat))), isV (.int .i64 (xs.getD q 0))] (by rfl) alloc_Z ?_ ?_
      · intro qi qh qA aa wx hb hs hd
        match qi, qh, qA with
        | 0, _, _ => exact .inl ⟨rfl, op_mv rfl (hs 22 rfl)⟩
        | 1, _, _ => exact .inl ⟨rfl, op_run rfl (op_idx (by omega) (by omega) rfl (hs 20 rfl) (hs 22 rfl) _) rfl⟩
        | 2, _, _ => exact .inl ⟨rfl, op_ldAt rfl rfl (hd 1 rfl) ((HRI.out.to (bel_then HB.out hb)).cellq hlt)⟩
        | qi + 3, h, _ => omega
      intro vs X4 hb hv hal hne
      replace HB := Hd.mk (bel_then HB.out hb)
      replace HE := Hd.mk (HE.out.to hb)
      have e24 : vs 24 = .int .i64 (((q : Nat) : Int)) := hv 0 (by decide) rfl
      have e26 : vs 26 = .int .i64 (xs.getD q 0) := hv 2 (by decide) rfl
      simp only [PA, e24, e26]
      clear hv hal hne hb e24 e26
      go_upto_region 5 with fail
      refine wp_region_vs 8 [27, 28, 29, 30, 31, 32, 33, 34] [0, 4, 6] [] 84 [.int .i64 0, .int .i64 0] [isV (.pointer (some ⟨g7, 2, none⟩)), isV (.slice (some ⟨g18, 0, none⟩) ((List.replicate xs.length (0 : Int)).length) k18), isV (.agg #[.int .i64 Wd, .int .i64 Ht]), isV (.agg #[.int .i64 x, .int .i64 y, .int .i64 t, .bool f]), isV (.int .i64 (((q : Nat) : Int))), isV (.int .i64 (toC Wd Ht x y t f (((q : Nat) : Int)))), isV (.int .i64 (xs.getD q 0)), isV (.pointer (some (Addr.add (⟨g18, 0, none⟩) (toC Wd Ht x y t f (((q : Nat) : Int))).toNat)))] (by kernel_rfl) (by kernel_rfl) (by kernel_rfl) (by rfl) alloc_Z (fun d v c a w h => by cases d <;> exact h) ?_ ?_
      · intro qi qh qA aa wx hb hs hd
        match qi, qh, qA with
        | 0, _, _ => exact ⟨_, op_faT2 rfl (hs 7 rfl), rfl⟩
        | 1, _, _ => exact op_ldS rfl rfl (hd 0 rfl) ((HE.out.to hb).cell 5 2 rfl rfl)
        | 2, _, _ => exact op_ldZ rfl rfl (hs 3 rfl) ((HE.out.to hb).get 0 rfl)
        | 3, _, _ => exact op_ldM rfl rfl (hs 4 rfl) ((HE.out.to hb).get 1 rfl)
        | 4, _, _ => exact op_mv rfl (hs 8 rfl)
        | 5, _, _ => exact op_call3 rfl rfl Try.call64 (by rw [(show aa.eval (.tmp 29) = .agg #[.int .i64 Wd, .int .i64 Ht] from (hd 2 rfl)), (show aa.eval (.tmp 30) = .agg #[.int .i64 x, .int .i64 y, .int .i64 t, .bool f] from (hd 3 rfl)), (show aa.eval (.tmp 31) = .int .i64 (((q : Nat) : Int)) from (hd 4 rfl))]; exact to_got Wd Ht x y t (((q : Nat) : Int)) f HK.out (by omega) _)
        | 6, _, _ => exact op_mv rfl (hs 9 rfl)
        | 7, _, _ => exact op_run rfl (op_idx (by omega) (by rw [List.length_replicate]; omega) rfl (hd 1 rfl) (hd 5 rfl) _) rfl
        | qi + 8, h, _ => omega
      intro vs X5 hb hv hal hne
      replace HB := Hd.mk (bel_then HB.out hb)
      replace HE := Hd.mk (HE.out.to hb)
      have e34 : vs 34 = .pointer (some (Addr.add (⟨g18, 0, none⟩) (toC Wd Ht x y t f (((q : Nat) : Int))).toNat)) := hv 7 (by decide) rfl
      have e33 : vs 33 = .int .i64 (xs.getD q 0) := hv 6 (by decide) rfl
      simp only [PA, e34, e33]
      clear hv hal hne hb e34 e33
      refine wpList_st rfl rfl rfl rfl rfl (sto_at (HE.out.get 4 rfl) (by rw [apS_length]; omega)) ?_
      have HE' : Env (putL X5 g18 (toC Wd Ht x y t f (((q : Nat) : Int))).toNat [.int .i64 (xs.getD q 0)]) [⟨w.heap.size, 84, [.int .i64 Wd, .int .i64 Ht]⟩, ⟨w.heap.size + 1, 31, [.int .i64 x, .int .i64 y, .int .i64 t, .bool f]⟩, ⟨w.heap.size + 1 + 1, 27, [.int .i64 Wd, .int .i64 Ht, .slice (some ad) xs.length k]⟩, ⟨w.heap.size + 1 + 1 + 1, 27, [.int .i64 0, .int .i64 0, .slice none 0 0]⟩, ⟨g18, 3, ints (((apS (fun q => toC Wd Ht x y t f q) xs q)).set (toC Wd Ht x y t f (((q : Nat) : Int))).toNat (xs.getD q 0)) ++ rest18⟩, ⟨g7, 27, [.int .i64 Wd, .int .i64 Ht, .slice (some ⟨g18, 0, none⟩) ((List.replicate xs.length (0 : Int)).length) k18]⟩] := HE.out.putI 4 rfl (by rw [apS_length]; omega)
      have HB' := putL_below (show w.heap.size ≤ g18 from G18.out) [.int .i64 (xs.getD q 0)] _ ((toC Wd Ht x y t f (((q : Nat) : Int))).toNat) HB.out
      generalize putL X5 g18 (toC Wd Ht x y t f (((q : Nat) : Int))).toNat [.int .i64 (xs.getD q 0)] = X6 at *
      replace HE := Hd.mk HE'
      replace HB := Hd.mk HB'
      clear HE' HB'
      go_wp2_with fail
      go_roundw
      case rel => exact ⟨q + 1, by omega, by go_num, HE.out, HB.out⟩
      case measure => simp [intOf]; omega
    have hqe : q = xs.length := by omega
    subst hqe
    go_upto_region 7 with fail
    refine wp_region_vd 1 [36] [] [] 84 [.int .i64 0, .int .i64 0] [isV (.agg #[.int .i64 Wd, .int .i64 Ht, .slice (some ⟨g18, 0, none⟩) ((List.replicate xs.length (0 : Int)).length) k18])] (by rfl) alloc_Z ?_ ?_
    · intro qi qh qA aa wx hb hs hd
      match qi, qh, qA with
      | 0, _, _ => exact .inl ⟨rfl, op_ldT rfl rfl (hs 7 rfl) ((HE.out.to hb).get 5 rfl)⟩
      | qi + 1, h, _ => omega
    intro vs X4 hb hv hal hne
    replace HB := Hd.mk (bel_then HB.out hb)
    replace HE := Hd.mk (HE.out.to hb)
    have e36 : vs 36 = .agg #[.int .i64 Wd, .int .i64 Ht, .slice (some ⟨g18, 0, none⟩) ((List.replicate xs.length (0 : Int)).length) k18] := hv 0 (by decide) rfl
    simp only [PA, e36]
    clear hv hal hne hb e36
    refine wpList_st rfl rfl rfl rfl rfl (sto_T (HE.out.get 3 rfl)) ?_
    have HE' : Env (putL X4 (w.heap.size + 1 + 1 + 1) 0 [.int .i64 Wd, .int .i64 Ht, .slice (some ⟨g18, 0, none⟩) ((List.replicate xs.length (0 : Int)).length) k18]) [⟨w.heap.size, 84, [.int .i64 Wd, .int .i64 Ht]⟩, ⟨w.heap.size + 1, 31, [.int .i64 x, .int .i64 y, .int .i64 t, .bool f]⟩, ⟨w.heap.size + 1 + 1, 27, [.int .i64 Wd, .int .i64 Ht, .slice (some ad) xs.length k]⟩, ⟨w.heap.size + 1 + 1 + 1, 27, [.int .i64 Wd, .int .i64 Ht, .slice (some ⟨g18, 0, none⟩) ((List.replicate xs.length (0 : Int)).length) k18]⟩, ⟨g18, 3, ints (apS (fun q => toC Wd Ht x y t f q) xs xs.length) ++ rest18⟩, ⟨g7, 27, [.int .i64 Wd, .int .i64 Ht, .slice (some ⟨g18, 0, none⟩) ((List.replicate xs.length (0 : Int)).length) k18]⟩] := HE.out.putF 3 rfl rfl
    have HB' := putL_below (show w.heap.size ≤ w.heap.size + 1 + 1 + 1 from by omega) [.int .i64 Wd, .int .i64 Ht, .slice (some ⟨g18, 0, none⟩) ((List.replicate xs.length (0 : Int)).length) k18] _ 0 HB.out
    generalize putL X4 (w.heap.size + 1 + 1 + 1) 0 [.int .i64 Wd, .int .i64 Ht, .slice (some ⟨g18, 0, none⟩) ((List.replicate xs.length (0 : Int)).length) k18] = X5 at *
    replace HE := Hd.mk HE'
    replace HB := Hd.mk HB'
    clear HE' HB'
    go_wp2_with fail
    have k0a := HE.out.cell 3 0 rfl rfl
    have k0b := HE.out.cell 3 1 rfl rfl
    have k0c := HE.out.cell 3 2 rfl rfl
    refine bodyPost_ret (v := .agg #[.int .i64 Wd, .int .i64 Ht, .slice (some ⟨g18, 0, none⟩) ((List.replicate xs.length (0 : Int)).length) k18]) (by simp [results, Try.results52, go_sem, k0a, k0b, k0c]) rfl ?_
    exact ⟨_, rfl, HB.out, g18, k18, rest18, by rw [apL, apS_length, List.length_replicate], G18.out, by rw [apL, apS_length]; rw [List.length_replicate] at m18; exact m18, n18, HE.out.get 4 rfl⟩
end Go.Proofs.Ytddbmckbankmeaa
set_option linter.unusedVariables false
set_option linter.unusedSimpArgs false
namespace Go.Proofs.Ytddbmckbankmeaa
open Go.RowKit
section
variable {P : Program} {Q : Exit → Act → World → Prop} {ops : Array Oper} {rest : List Oper} {o : Oper} {a : Act} {w : World} {v : Value}
theorem wpList_run (hg : o.guard = none) (hr : (execOp a.eval o).run P w = .ok (.value v) w) (h : wpList P ops Q rest (a.put o.dst v) w) : wpList P ops Q (o :: rest) a w := by
  unfold wpList
  rw [if_pos (by simp [Region.wanted, hg])]
  refine .inl ?_
  unfold Oper.wp
  rw [hr]
  exact h
end
section
variable {Q : Exit → Act → World → Prop} {o : Oper} {a : Act} {w : World} {d : Nat} {x y : Operand} {b1 : Int} {c : Bool} {n1 n2 : Int}
theorem op_buM0 (ho : o.op = .build 31 #[(0, x)]) (h0 : a.eval x = .int .i64 b1) (w : World) : (execOp a.eval o).run Try.prog w = .ok (.value (.agg #[.int .i64 b1, .int .i64 0, .int .i64 0, .bool false])) w := by
  generalize a.eval = ev at h0 ⊢
  unfold execOp
  simp only [ho]
  simp [go_sem, h0]
theorem op_lit2 (ho : o.op = .buildSlice 22 2 #[(0, .const (.int .i64 n1)), (1, .const (.int .i64 n2))]) (hd : o.dst = some d) (lo : Nat) (hl : lo ≤ w.heap.size) : o.wp Try.prog a w (Post a w d (isF lo [n1, n2]).p) Q := by
  have hr : (execOp a.eval o).run Try.prog w = .ok (.value (.slice (some ⟨w.heap.size, 0, none⟩) 2 2)) (w.alloc (.cells #[.int .i64 n1, .int .i64 n2] 3)) := by
    have h1 : a.eval (.const (.int .i64 n1)) = .int .i64 n1 := rfl
    have h2 : a.eval (.const (.int .i64 n2)) = .int .i64 n2 := rfl
    generalize a.eval = ev at h1 h2 ⊢
    unfold execOp
    simp only [ho]
    simp [go_sem, h1, h2]
  unfold Oper.wp
  rw [hr]
  show Post a w d _ (a.put o.dst _) _
  rw [hd]
  have hB : Blk (w.alloc (.cells #[.int .i64 n1, .int .i64 n2] 3)) w.heap.size 3 [.int .i64 n1, .int .i64 n2] := heap_alloc_new _ _
  exact ⟨_, rfl, below_alloc (Below.refl _ _) _, w.heap.size, 2, [], rfl, hl, Nat.le_refl _, by omega, by simpa [ints] using hB⟩
end
theorem valid_some {w : World} {A : Option Addr} {xs : List Int} {W H : Int} (hr : RI w A xs) (h : validB W H xs = true) : ∃ ad, A = some ad := by
  unfold validB at h
  simp only [Bool.and_eq_true, decide_eq_true_eq] at h
  obtain ⟨hw, hh⟩ := sizeB_bounds h.1
  have h1 : 1 * 1 ≤ W * H := Int.mul_le_mul hw.1 hh.1 (by omega) (by omega)
  obtain ⟨ad, e, _⟩ := hr.at_ (k := 0) (by omega)
  exact ⟨ad, e⟩
theorem valid_len {xs : List Int} {W H : Int} (h : validB W H xs = true) : (xs.length : Int) = W * H := by
  unfold validB at h
  simp only [Bool.and_eq_true, decide_eq_true_eq] at h
  exact h.2.1
theorem valid_size {xs : List Int} {W H : Int} (h : validB W H xs = true) : sizeB W H = true := by
  unfold validB at h
  simp only [Bool.and_eq_true] at h
  exact h.1
set_option maxRecDepth 100000 in
set_option maxHeartbeats 1000000 in
theorem Apply_ad (Wd Ht x y t : Int) (f : Bool) (ad : Addr) (k : Nat) (xs : List Int) (w : World) (hri : RI w (some ad) xs) (hv : validB Wd Ht xs = true) (hm : alB Wd Ht x y t = true) :
    Calls Try.prog 13 #[.agg #[.int .i64 x, .int .i64 y, .int .i64 t, .bool f], .agg #[.int .i64 Wd, .int .i64 Ht, .slice (some ad) xs.length k]] w (Got w (isP (isFS w.heap.size Wd Ht (apL Wd Ht x y t f xs)) (isV (.int .i64 0))).p) := by
  have HRI := Hd.mk hri
  have HV := Hd.mk hv
  have HM := Hd.mk hm
  have HK := Hd.mk (okm (valid_size hv) hm)
  have HLN := Hd.mk (valid_len hv)
  clear hri hv hm
  go_enter Try.func13, Try.ntmps13
  go_upto_region 1 with fail
  obtain ⟨W0, hW0⟩ : ∃ W : World, W = ((w.alloc (.cells #[.int .i64 x, .int .i64 y, .int .i64 t, .bool f] 31)).alloc (.cells #[.int .i64 Wd, .int .i64 Ht, .slice (some ad) xs.length k] 27)).alloc (.cells #[.int .i64 0, .int .i64 0, .slice none 0 0] 27) := ⟨_, rfl⟩
  rw [← hW0]
  obtain ⟨he, hb⟩ := env_three hW0
  have HE := Hd.mk he
  have HB := Hd.mk hb
  clear he hb hW0
  refine wp_region_vg 10 [6, 7, 8, 9, 10, 11, 12, 13, 14, 15] [2, 3, 8, 9] [] 84 [.int .i64 0, .int .i64 0] [isV (.agg #[.int .i64 Wd, .int .i64 Ht, .slice (some ad) xs.length k]), isV (.bool true), isV (.bool false), isV (.bool false), isV (.agg #[.int .i64 Wd, .int .i64 Ht, .slice (some ad) xs.length k]), isV (.agg #[.int .i64 Wd, .int .i64 Ht]), isV (.agg #[.int .i64 x, .int .i64 y, .int .i64 t, .bool f]), isV (.bool true), isV (.bool false), isV (.bool false)] (by kernel_rfl) (by kernel_rfl) (by kernel_rfl) (by rfl) alloc_Z (fun d v c a w h => by cases d <;> exact h) ?_ ?_
  · intro qi qh qA aa wx hb hs hd
    match qi, qh, qA with
    | 0, _, _ => exact .inl ⟨rfl, op_ldT rfl rfl (hs 3 rfl) ((HE.out.to hb).get 1 rfl)⟩
    | 1, _, _ => exact .inl ⟨rfl, wp_b (bool_eq HV.out) (op_call1 rfl rfl Try.call16 (by rw [(show aa.eval (.tmp 6) = .agg #[.int .i64 Wd, .int .i64 Ht, .slice (some ad) xs.length k] from (hd 0 rfl))]; exact Valid_got Wd Ht (some ad) k xs _ (HRI.out.to (bel_then HB.out hb))))⟩
    | 2, _, _ => exact .inl ⟨rfl, ⟨_, op_not rfl (hd 1 rfl), rfl⟩⟩
    | 3, _, _ => exact .inl ⟨rfl, op_mv rfl (hd 2 rfl)⟩
    | 4, _, _ => exact .inl ⟨⟨rfl, .inl (hd 3 rfl)⟩, op_ldT rfl rfl (hs 3 rfl) ((HE.out.to hb).get 1 rfl)⟩
    | 5, _, _ => exact .inl ⟨⟨rfl, .inl (hd 3 rfl)⟩, op_call1 rfl rfl Try.call50 (by rw [(show aa.eval (.tmp 10) = .agg #[.int .i64 Wd, .int .i64 Ht, .slice (some ad) xs.length k] from (hd 4 rfl))]; exact size_got Wd Ht (some ad) xs.length k _)⟩
    | 6, _, _ => exact .inl ⟨⟨rfl, .inl (hd 3 rfl)⟩, op_ldM rfl rfl (hs 2 rfl) ((HE.out.to hb).get 0 rfl)⟩
    | 7, _, _ => exact .inl ⟨⟨rfl, .inl (hd 3 rfl)⟩, wp_b (bool_eq HM.out) (op_call2 rfl rfl Try.call51 (by rw [(show aa.eval (.tmp 11) = .agg #[.int .i64 Wd, .int .i64 Ht] from (hd 5 rfl)), (show aa.eval (.tmp 12) = .agg #[.int .i64 x, .int .i64 y, .int .i64 t, .bool f] from (hd 6 rfl))]; exact allows_got Wd Ht x y t f _))⟩
    | 8, _, _ => exact .inl ⟨⟨rfl, .inl (hd 3 rfl)⟩, ⟨_, op_not rfl (hd 7 rfl), rfl⟩⟩
    | 9, _, _ => exact .inl ⟨rfl, ⟨_, op_pickF rfl (hd 3 rfl) (hd 8 rfl), rfl⟩⟩
    | qi + 10, h, _ => omega
  intro vs X1 hb hv hal hne
  replace HB := Hd.mk (bel_then HB.out hb)
  replace HE := Hd.mk (HE.out.to hb)
  have e15 : vs 15 = .bool false := hv 9 (by decide) rfl
  simp only [PA, e15]
  clear hv hal hne hb e15
  go_upto_region 3 with fail
  have HWS := Hd.mk HB.out.size
  refine wp_region_vs 5 [17, 18, 19, 20, 21] [] [] 84 [.int .i64 0, .int .i64 0] [isV (.agg #[.int .i64 Wd, .int .i64 Ht, .slice (some ad) xs.length k]), isV (.agg #[.int .i64 Wd, .int .i64 Ht]), isV (.agg #[.int .i64 x, .int .i64 y, .int .i64 t, .bool f]), isV (.agg #[.int .i64 Wd, .int .i64 Ht, .slice (some ad) xs.length k]), isFS X1.heap.size Wd Ht (apL Wd Ht x y t f xs)] (by kernel_rfl) (by kernel_rfl) (by kernel_rfl) (by rfl) alloc_Z (fun d v c a w h => by cases d <;> exact h) ?_ ?_
  · intro qi qh qA aa wx hb hs hd
    match qi, qh, qA with
    | 0, _, _ => exact op_ldT rfl rfl (hs 3 rfl) ((HE.out.to hb).get 1 rfl)
    | 1, _, _ => exact op_call1 rfl rfl Try.call50 (by rw [(show aa.eval (.tmp 17) = .agg #[.int .i64 Wd, .int .i64 Ht, .slice (some ad) xs.length k] from (hd 0 rfl))]; exact size_got Wd Ht (some ad) xs.length k _)
    | 2, _, _ => exact op_ldM rfl rfl (hs 2 rfl) ((HE.out.to hb).get 0 rfl)
    | 3, _, _ => exact op_ldT rfl rfl (hs 3 rfl) ((HE.out.to hb).get 1 rfl)
    | 4, _, _ => exact op_call3 rfl rfl Try.call52 (by rw [(show aa.eval (.tmp 18) = .agg #[.int .i64 Wd, .int .i64 Ht] from (hd 1 rfl)), (show aa.eval (.tmp 19) = .agg #[.int .i64 x, .int .i64 y, .int .i64 t, .bool f] from (hd 2 rfl)), (show aa.eval (.tmp 20) = .agg #[.int .i64 Wd, .int .i64 Ht, .slice (some ad) xs.length k] from (hd 3 rfl))]; exact got_fs hb.size (apply_got Wd Ht x y t f ad k xs _ (HRI.out.to (bel_then HB.out hb)) HK.out HLN.out))
    | qi + 5, h, _ => omega
  intro vs X2 hb hv hal hne
  have HL0 := Hd.mk (HE.out.lt)
  have HBW := HB
  replace HB := Hd.mk (bel_then HB.out hb)
  replace HE := Hd.mk (HE.out.to hb)
  have t21 : (isFS X1.heap.size Wd Ht (apL Wd Ht x y t f xs)).p (vs 21) X2 := hv 4 (by decide) rfl
  obtain ⟨g21, k21, rest21, e21, l21, m21, n21, b21⟩ := t21
  replace HE : Hd (Env X2 [⟨w.heap.size, 31, [.int .i64 x, .int .i64 y, .int .i64 t, .bool f]⟩, ⟨w.heap.size + 1, 27, [.int .i64 Wd, .int .i64 Ht, .slice (some ad) xs.length k]⟩, ⟨w.heap.size + 1 + 1, 27, [.int .i64 0, .int .i64 0, .slice none 0 0]⟩, ⟨g21, 3, ints (apL Wd Ht x y t f xs) ++ rest21⟩]) := ⟨Env.addne (e := ⟨g21, 3, ints (apL Wd Ht x y t f xs) ++ rest21⟩) HE.out b21 (fun e' he => Nat.ne_of_lt (Nat.lt_of_lt_of_le (HL0.out e' he) l21))⟩
  have G21 : Hd (w.heap.size ≤ g21) := ⟨Nat.le_trans HBW.out.size l21⟩
  simp only [PA, e21]
  clear hv hal hne hb HL0 HBW e21 l21 b21
  refine wpList_st rfl rfl rfl rfl rfl (sto_T (HE.out.get 2 rfl)) ?_
  have HE' : Env (putL X2 (w.heap.size + 1 + 1) 0 [.int .i64 Wd, .int .i64 Ht, .slice (some ⟨g21, 0, none⟩) ((apL Wd Ht x y t f xs).length) k21]) [⟨w.heap.size, 31, [.int .i64 x, .int .i64 y, .int .i64 t, .bool f]⟩, ⟨w.heap.size + 1, 27, [.int .i64 Wd, .int .i64 Ht, .slice (some ad) xs.length k]⟩, ⟨w.heap.size + 1 + 1, 27, [.int .i64 Wd, .int .i64 Ht, .slice (some ⟨g21, 0, none⟩) ((apL Wd Ht x y t f xs).length) k21]⟩, ⟨g21, 3, ints (apL Wd Ht x y t f xs) ++ rest21⟩] := HE.out.putF 2 rfl rfl
  have HB' := putL_below (show w.heap.size ≤ w.heap.size + 1 + 1 from by omega) [.int .i64 Wd, .int .i64 Ht, .slice (some ⟨g21, 0, none⟩) ((apL Wd Ht x y t f xs).length) k21] _ 0 HB.out
  generalize putL X2 (w.heap.size + 1 + 1) 0 [.int .i64 Wd, .int .i64 Ht, .slice (some ⟨g21, 0, none⟩) ((apL Wd Ht x y t f xs).length) k21] = X3 at *
  replace HE := Hd.mk HE'
  replace HB := Hd.mk HB'
  clear HE' HB'
  go_wp2_with fail
  have k0a := HE.out.cell 2 0 rfl rfl
  have k0b := HE.out.cell 2 1 rfl rfl
  have k0c := HE.out.cell 2 2 rfl rfl
  refine bodyPost_ret (v := .tuple #[.agg #[.int .i64 Wd, .int .i64 Ht, .slice (some ⟨g21, 0, none⟩) ((apL Wd Ht x y t f xs).length) k21], .int .i64 0]) (by simp [results, Try.results13, go_sem, k0a, k0b, k0c]) rfl ?_
  exact ⟨_, rfl, HB.out, _, _, rfl, ⟨g21, k21, rest21, rfl, G21.out, m21, n21, HE.out.get 3 rfl⟩, rfl⟩
end Go.Proofs.Ytddbmckbankmeaa
