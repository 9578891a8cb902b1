/- Part 9 of the texts behind this claim. -/
import Derived.OwnWalk
import Derived.WalkKit
import Derived.DataElems
import Derived.Test.YtddbmckbankmeaaGreatKb1
import Derived.Test.YtddbmckbankmeaaGreatKb8
set_option linter.unusedVariables false
set_option linter.unusedSimpArgs false
namespace Go.Proofs.YtddbmckbankmeaaGreat
open Go.RowKit
def mcells (ms : List Mv) : List Value := ms.flatMap fun m => [.int .i64 m.x, .int .i64 m.y, .int .i64 m.t, .bool m.f]
theorem mcells_add (ms : List Mv) (m : Mv) : mcells (ms ++ [m]) = mcells ms ++ [.int .i64 m.x, .int .i64 m.y, .int .i64 m.t, .bool m.f] := by simp [mcells]
def mvs4 (W H : Nat) (f : Bool) (t x : Nat) : Nat → List Mv
 | 0 => []
 | n + 1 => mvs4 W H f t x n ++ if alB W H x n t = true then [⟨x, n, t, f⟩] else []
def mvs3 (W H : Nat) (f : Bool) (t : Nat) : Nat → List Mv
 | 0 => []
 | n + 1 => mvs3 W H f t n ++ mvs4 W H f t n H
def mvs2 (W H : Nat) (f : Bool) : Nat → List Mv
 | 0 => []
 | n + 1 => mvs2 W H f n ++ mvs3 W H f n W
def mvs1 (W H : Nat) : Nat → List Mv
 | 0 => []
 | n + 1 => mvs1 W H n ++ mvs2 W H (bo n) 4
theorem len4 (W H : Nat) (f : Bool) (t x : Nat) : ∀ n, (mvs4 W H f t x n).length ≤ n
 | 0 => Nat.le_refl _
 | n + 1 => by
  have := len4 W H f t x n; simp only [mvs4, List.length_append]; split <;> simp <;> omega
theorem len3 (W H : Nat) (hH : H ≤ 8) (f : Bool) (t : Nat) : ∀ n, (mvs3 W H f t n).length ≤ 8 * n
 | 0 => Nat.le_refl _
 | n + 1 => by
  have := len3 W H hH f t n; have := len4 W H f t n H; simp only [mvs3, List.length_append]; omega
theorem len2 (W H : Nat) (hW : W ≤ 8) (hH : H ≤ 8) (f : Bool) : ∀ n, (mvs2 W H f n).length ≤ 64 * n
 | 0 => Nat.le_refl _
 | n + 1 => by
  have := len2 W H hW hH f n; have := len3 W H hH f n W; simp only [mvs2, List.length_append]; omega
theorem len1 (W H : Nat) (hW : W ≤ 8) (hH : H ≤ 8) : ∀ n, (mvs1 W H n).length ≤ 256 * n
 | 0 => Nat.le_refl _
 | n + 1 => by
  have := len1 W H hW hH n; have := len2 W H hW hH (bo n) 4; simp only [mvs1, List.length_append]; omega
theorem mem4 (W H : Nat) (f : Bool) (t x : Nat) (m : Mv) : ∀ n, m ∈ mvs4 W H f t x n ↔ ∃ y, y < n ∧ m = ⟨x, y, t, f⟩ ∧ alB W H x y t = true
 | 0 => by simp [mvs4]
 | n + 1 => by
  simp only [mvs4, List.mem_append, mem4 W H f t x m n]; constructor
  ·rintro (⟨y, h1, h2, h3⟩ | h)
   ·exact ⟨y, by omega, h2, h3⟩
   split at h
   ·next ha => exact ⟨n, by omega, List.mem_singleton.1 h, ha⟩
   cases h
  rintro ⟨y, h1, h2, h3⟩; by_cases e : y = n
  ·subst e; right
   rw [if_pos h3]; exact List.mem_singleton.2 h2
  exact .inl ⟨y, by omega, h2, h3⟩
theorem mem3 (W H : Nat) (f : Bool) (t : Nat) (m : Mv) : ∀ n, m ∈ mvs3 W H f t n ↔ ∃ x, x < n ∧ m ∈ mvs4 W H f t x H
 | 0 => by simp [mvs3]
 | n + 1 => by
  simp only [mvs3, List.mem_append, mem3 W H f t m n]; constructor
  ·rintro (⟨y, h1, h2⟩ | h)
   ·exact ⟨y, by omega, h2⟩
   exact ⟨n, by omega, h⟩
  rintro ⟨y, h1, h2⟩; by_cases e : y = n
  ·subst e; exact .inr h2
  exact .inl ⟨y, by omega, h2⟩
theorem mem2 (W H : Nat) (f : Bool) (m : Mv) : ∀ n, m ∈ mvs2 W H f n ↔ ∃ x, x < n ∧ m ∈ mvs3 W H f x W
 | 0 => by simp [mvs2]
 | n + 1 => by
  simp only [mvs2, List.mem_append, mem2 W H f m n]; constructor
  ·rintro (⟨y, h1, h2⟩ | h)
   ·exact ⟨y, by omega, h2⟩
   exact ⟨n, by omega, h⟩
  rintro ⟨y, h1, h2⟩; by_cases e : y = n
  ·subst e; exact .inr h2
  exact .inl ⟨y, by omega, h2⟩
theorem mem1 (W H : Nat) (m : Mv) : ∀ n, m ∈ mvs1 W H n ↔ ∃ x, x < n ∧ m ∈ mvs2 W H (bo x) 4
 | 0 => by simp [mvs1]
 | n + 1 => by
  simp only [mvs1, List.mem_append, mem1 W H m n]; constructor
  ·rintro (⟨y, h1, h2⟩ | h)
   ·exact ⟨y, by omega, h2⟩
   exact ⟨n, by omega, h⟩
  rintro ⟨y, h1, h2⟩; by_cases e : y = n
  ·subst e; exact .inr h2
  exact .inl ⟨y, by omega, h2⟩
theorem mem_moves {W H : Nat} (hs : sizeB W H = true) (m : Mv) : m ∈ mvs1 W H 2 ↔ Al W H m := by
 simp only [mem1, mem2, mem3, mem4]; constructor
 ·rintro ⟨q, hq, t, ht, x, hx, y, hy, rfl, ha⟩; exact al_of hs ha
 intro h; have h1 := h.x; have h2 := h.y; have h3 := h.t; have ha := h.al; refine ⟨if m.f = true then 1 else 0, by split <;> omega, m.t.toNat, by omega, m.x.toNat, by omega, m.y.toNat, by omega, ?_, ?_⟩
 ·obtain ⟨x, y, t, f⟩ := m; simp only at h1 h2 h3; have e1 : ((x.toNat : Nat) : Int) = x := by omega
  have e2 : ((y.toNat : Nat) : Int) = y := by omega
  have e3 : ((t.toNat : Nat) : Int) = t := by omega
  simp only [e1, e2, e3]; cases f <;> rfl
 have e1 : ((m.x.toNat : Nat) : Int) = m.x := by omega
 have e2 : ((m.y.toNat : Nat) : Int) = m.y := by omega
 have e3 : ((m.t.toNat : Nat) : Int) = m.t := by omega
 rw [e1, e2, e3]; exact ha
section
variable {w w' : World} {base size n g o : Nat} {e : TypeId} {v : Value} {xs vs : List Value}
theorem own_to (h : w.ownsRow base e size v n xs) (hb : Below w.heap.size w w') : w'.ownsRow base e size v n xs :=
 h.kept (row := none) ⟨hb.os, hb.tape, hb.output, hb.size, fun k hk _ => hb.block k hk⟩ (by cases v.ownBlock <;> simp)
theorem own_put (hlt : ∀ k, v.ownBlock = some k → k < g) (h : w.ownsRow base e size v n xs) : (putL w g o vs).ownsRow base e size v n xs := by
 refine ⟨h.1, ?_⟩; rcases h.2 with hn | ⟨g', cap, cur, rfl, hb, hgg, rest⟩
 ·exact .inl hn
 refine .inr ⟨g', cap, cur, rfl, hb, ?_, rest⟩; rw [(putL_below (Nat.le_refl g) vs w o (Below.refl g w)).block g' (hlt g' rfl)]; exact hgg
end
theorem Tryz.info_rmove : (Tryz.prog.info? 56).map (fun i => (i.zero, i.size, i.bytes)) = some (some (.agg #[.int .i64 0, .int .i64 0, .int .i64 0, .bool false]), 4, 32) := by kernel_rfl
def OwnM (lo : Nat) (w : World) (v : Value) (ms : List Mv) : Prop := w.ownsRow lo 56 4 v ms.length (mcells ms)
section
variable {lo g o : Nat} {w w' : World} {v : Value} {ms : List Mv} {vs : List Value}
theorem OwnM.to (h : OwnM lo w v ms) (hb : Below w.heap.size w w') : OwnM lo w' v ms := own_to h hb
theorem OwnM.put (h : OwnM lo w v ms) (hlt : ∀ k, v.ownBlock = some k → k < g) : OwnM lo (putL w g o vs) v ms := own_put hlt h
theorem OwnM.lt (h : OwnM lo w v ms) : ∀ k, v.ownBlock = some k → lo ≤ k ∧ k < w.heap.size := World.ownsRow.lt h
end
set_option maxRecDepth 100000 in
set_option maxHeartbeats 1000000 in
theorem rMoves_got (Wn Hn : Nat) (hWn : 1 ≤ Wn ∧ Wn ≤ 8) (hHn : 1 ≤ Hn ∧ Hn ≤ 8) (w : World) :
  Calls Tryz.prog 36 #[.int .i64 (((Wn : Nat) : Int)), .int .i64 (((Hn : Nat) : Int))] w (Got w ((⟨fun v w' => OwnM w.heap.size w' v (mvs1 Wn Hn 2), fun v w w' h hb => own_to h hb⟩ : SP)).p) := by
 go_enter Tryz.func36, Tryz.ntmps36
 go_upto_region 2 with fail
 have HE : Hd (Env w []) := ⟨trivial⟩; have HB : Hd (Below w.heap.size w w) := ⟨Below.refl _ _⟩; refine wp_region_vd 2 [12, 13] [0, 1] [] 63 [.int .i64 0, .int .i64 0] [isV (.agg #[.bool false, .bool true]), qI 0] (by rfl) alloc_Z ?_ ?_
 ·intro qi qh qA aa wx hb hs hd
  match qi, qh, qA with
  | 0, _, _ => exact aL ⟨_, op_bu2 rfl, rfl⟩ | 1, _, _ => exact aL (op_mv rfl rfl) | qi + 2, h, _ => omega
 intro vs X1 hb hv hal hne; replace HB := Hd.mk (bel_then HB.out hb); replace HE := Hd.mk (HE.out.to hb); have e12 : vs 12 = .agg #[.bool false, .bool true] := hv 0 (by decide) rfl; have e13 : vs 13 = .int .i64 0 := hv 1 (by decide) rfl; simp only [PA, e12, e13]; clear hv hal hne hb e12 e13; have HO : Hd (OwnM w.heap.size X1 (.slice none 0 0) []) := ⟨World.ownsRow_nil _ _ _ _⟩; go_wp2_with fail
 go_loopw [5, 13] (fun s5 s13 wr => ∃ q : Nat, q ≤ 2 ∧ s13 = .int .i64 q ∧ OwnM w.heap.size wr s5 (mvs1 Wn Hn q) ∧ Below w.heap.size w wr) (fun s5 s13 _ => 2 - (intOf s13).toNat)
 case atStart => exact ⟨0, Nat.zero_le _, rfl, by have h := HO.out; simpa only [mvs1, List.append_nil, List.nil_append] using h, HB.out⟩
 case round =>
  obtain ⟨q, hql, rfl, ho, hb⟩ := hrel; clear HB HE HO; have HB := Hd.mk hb; have HO := Hd.mk ho; have HE : Hd (Env wr []) := ⟨trivial⟩; clear ho hb; by_cases hq : q < 2
  ·skip
   go_upto_region 4 with fail
   try generalize Value.bool (decide (((q : Nat) : Int) < 2)) = zz4
   refine wp_region_vd 1 [15] [0] [] 63 [.int .i64 0, .int .i64 0] [isV (.bool (bo q))] (by rfl) alloc_Z ?_ ?_
   ·intro qi qh qA aa wx hb hs hd
    match qi, qh, qA with
    | 0, _, _ => exact aL ⟨_, op_ix2 hq rfl (hs 12 rfl) (hs 13 rfl), rfl⟩ | qi + 1, h, _ => omega
   intro vs X1 hb hv hal hne; replace HB := Hd.mk (bel_then HB.out hb); replace HE := Hd.mk (HE.out.to hb); have HOL := Hd.mk HO.out.lt; replace HO := Hd.mk (HO.out.to hb); have e15 : vs 15 = .bool (bo q) := hv 0 (by decide) rfl; simp only [PA, e15]; clear hv hal hne hb e15 HOL; go_upto_region 5 with fail
   refine wp_region_vd 1 [16] [0] [] 63 [.int .i64 0, .int .i64 0] [qI 0] (by rfl) alloc_Z ?_ ?_
   ·intro qi qh qA aa wx hb hs hd
    match qi, qh, qA with
    | 0, _, _ => exact aL (op_mv rfl rfl) | qi + 1, h, _ => omega
   intro vs X2 hb hv hal hne; replace HB := Hd.mk (bel_then HB.out hb); replace HE := Hd.mk (HE.out.to hb); have HOL := Hd.mk HO.out.lt; replace HO := Hd.mk (HO.out.to hb); have e16 : vs 16 = .int .i64 0 := hv 0 (by decide) rfl; simp only [PA, e16]; clear hv hal hne hb e16 HOL; go_wp2_with fail
   go_loopw [5, 16] (fun s5 s16 wr => ∃ t : Nat, t ≤ 4 ∧ s16 = .int .i64 t ∧ OwnM w.heap.size wr s5 (mvs1 Wn Hn q ++ mvs2 Wn Hn (bo q) t) ∧ Below w.heap.size w wr) (fun s5 s16 _ => 4 - (intOf s16).toNat)
   case atStart => exact ⟨0, Nat.zero_le _, rfl, by have h := HO.out; simpa only [mvs2, List.append_nil, List.nil_append] using h, HB.out⟩
   case round =>
    obtain ⟨t, htl, rfl, ho, hb⟩ := hrel; clear HB HE HO; have HB := Hd.mk hb; have HO := Hd.mk ho; have HE : Hd (Env wr []) := ⟨trivial⟩; clear ho hb; by_cases ht : t < 4
    ·skip
     go_upto_region 7 with fail
     try generalize Value.bool (decide (((t : Nat) : Int) < 4)) = zz7
     refine wp_region_vd 1 [18] [0] [] 63 [.int .i64 0, .int .i64 0] [qI ((t : Nat) : Int)] (by rfl) alloc_Z ?_ ?_
     ·intro qi qh qA aa wx hb hs hd
      match qi, qh, qA with
      | 0, _, _ => exact aL (op_mv rfl (hs 16 rfl)) | qi + 1, h, _ => omega
     intro vs X1 hb hv hal hne; replace HB := Hd.mk (bel_then HB.out hb); replace HE := Hd.mk (HE.out.to hb); have HOL := Hd.mk HO.out.lt; replace HO := Hd.mk (HO.out.to hb); have e18 : vs 18 = .int .i64 (((t : Nat) : Int)) := hv 0 (by decide) rfl; simp only [PA, e18]; clear hv hal hne hb e18 HOL; go_upto_region 8 with fail
     refine wp_region_vd 2 [19, 20] [0, 1] [] 63 [.int .i64 0, .int .i64 0] [qI ((Wn : Nat) : Int), qI 0] (by rfl) alloc_Z ?_ ?_
     ·intro qi qh qA aa wx hb hs hd
      match qi, qh, qA with
      | 0, _, _ => exact aL (op_mv rfl (hs 0 rfl)) | 1, _, _ => exact aL (op_mv rfl rfl) | qi + 2, h, _ => omega
     intro vs X2 hb hv hal hne; replace HB := Hd.mk (bel_then HB.out hb); replace HE := Hd.mk (HE.out.to hb); have HOL := Hd.mk HO.out.lt; replace HO := Hd.mk (HO.out.to hb); have e19 : vs 19 = .int .i64 (((Wn : Nat) : Int)) := hv 0 (by decide) rfl; have e20 : vs 20 = .int .i64 0 := hv 1 (by decide) rfl; simp only [PA, e19, e20]; clear hv hal hne hb e19 e20 HOL; go_wp2_with fail
     go_loopw [5, 20] (fun s5 s20 wr => ∃ i : Nat, i ≤ Wn ∧ s20 = .int .i64 i ∧ OwnM w.heap.size wr s5 (mvs1 Wn Hn q ++ mvs2 Wn Hn (bo q) t ++ mvs3 Wn Hn (bo q) t i) ∧ Below w.heap.size w wr) (fun s5 s20 _ => Wn - (intOf s20).toNat)
     case atStart => exact ⟨0, Nat.zero_le _, rfl, by have h := HO.out; simpa only [mvs3, List.append_nil, List.nil_append] using h, HB.out⟩
     case round =>
      obtain ⟨i, hil, rfl, ho, hb⟩ := hrel; clear HB HE HO; have HB := Hd.mk hb; have HO := Hd.mk ho; have HE : Hd (Env wr []) := ⟨trivial⟩; clear ho hb; by_cases hi : i < Wn
      ·skip
       go_upto_region 10 with fail
       try generalize Value.bool (decide (((i : Nat) : Int) < (Wn : Int))) = zz10
       refine wp_region_vd 1 [22] [0] [] 63 [.int .i64 0, .int .i64 0] [qI ((i : Nat) : Int)] (by rfl) alloc_Z ?_ ?_
       ·intro qi qh qA aa wx hb hs hd
        match qi, qh, qA with
        | 0, _, _ => exact aL (op_mv rfl (hs 20 rfl)) | qi + 1, h, _ => omega
       intro vs X1 hb hv hal hne; replace HB := Hd.mk (bel_then HB.out hb); replace HE := Hd.mk (HE.out.to hb); have HOL := Hd.mk HO.out.lt; replace HO := Hd.mk (HO.out.to hb); have e22 : vs 22 = .int .i64 (((i : Nat) : Int)) := hv 0 (by decide) rfl; simp only [PA, e22]; clear hv hal hne hb e22 HOL; go_upto_region 11 with fail
       refine wp_region_vd 2 [23, 24] [0, 1] [] 63 [.int .i64 0, .int .i64 0] [qI ((Hn : Nat) : Int), qI 0] (by rfl) alloc_Z ?_ ?_
       ·intro qi qh qA aa wx hb hs hd
        match qi, qh, qA with
        | 0, _, _ => exact aL (op_mv rfl (hs 1 rfl)) | 1, _, _ => exact aL (op_mv rfl rfl) | qi + 2, h, _ => omega
       intro vs X2 hb hv hal hne; replace HB := Hd.mk (bel_then HB.out hb); replace HE := Hd.mk (HE.out.to hb); have HOL := Hd.mk HO.out.lt; replace HO := Hd.mk (HO.out.to hb); have e23 : vs 23 = .int .i64 (((Hn : Nat) : Int)) := hv 0 (by decide) rfl; have e24 : vs 24 = .int .i64 0 := hv 1 (by decide) rfl; simp only [PA, e23, e24]; clear hv hal hne hb e23 e24 HOL; go_wp2_with fail
       go_loopw [5, 24] (fun s5 s24 wr => ∃ j : Nat, j ≤ Hn ∧ s24 = .int .i64 j ∧ OwnM w.heap.size wr s5 (mvs1 Wn Hn q ++ mvs2 Wn Hn (bo q) t ++ mvs3 Wn Hn (bo q) t i ++ mvs4 Wn Hn (bo q) t i j) ∧ Below w.heap.size w wr) (fun s5 s24 _ => Hn - (intOf s24).toNat)
       case atStart => exact ⟨0, Nat.zero_le _, rfl, by have h := HO.out; simpa only [mvs4, List.append_nil, List.nil_append] using h, HB.out⟩
       case round =>
        obtain ⟨j, hjl, rfl, ho, hb⟩ := hrel; clear HB HE HO; have HB := Hd.mk hb; have HO := Hd.mk ho; have HE : Hd (Env wr []) := ⟨trivial⟩; clear ho hb; by_cases hj : j < Hn
        ·skip
         go_upto_region 13 with fail
         try generalize Value.bool (decide (((j : Nat) : Int) < (Hn : Int))) = zz13
         refine wp_region_vd 1 [26] [0] [] 63 [.int .i64 0, .int .i64 0] [qI ((j : Nat) : Int)] (by rfl) alloc_Z ?_ ?_
         ·intro qi qh qA aa wx hb hs hd
          match qi, qh, qA with
          | 0, _, _ => exact aL (op_mv rfl (hs 24 rfl)) | qi + 1, h, _ => omega
         intro vs X1 hb hv hal hne; replace HB := Hd.mk (bel_then HB.out hb); replace HE := Hd.mk (HE.out.to hb); have HOL := Hd.mk HO.out.lt; replace HO := Hd.mk (HO.out.to hb); have e26 : vs 26 = .int .i64 (((j : Nat) : Int)) := hv 0 (by decide) rfl; simp only [PA, e26]; clear hv hal hne hb e26 HOL; go_upto_region 14 with fail
         refine wp_region_vd 6 [27, 28, 29, 30, 31, 11] [0, 1, 2, 3, 4] [5] 56 [.int .i64 0, .int .i64 0, .int .i64 0, .bool false] [qI ((i : Nat) : Int), qI ((j : Nat) : Int), qI ((t : Nat) : Int), isV (.bool (bo q)), isV (.agg #[.int .i64 (((i : Nat) : Int)), .int .i64 (((j : Nat) : Int)), .int .i64 (((t : Nat) : Int)), .bool (bo q)]), SP.any] (by rfl) alloc_N ?_ ?_
         ·intro qi qh qA aa wx hb hs hd
          match qi, qh, qA with
          | 0, _, _ => exact aL (op_mv rfl (hs 9 rfl)) | 1, _, _ => exact aL (op_mv rfl (hs 10 rfl)) | 2, _, _ => exact aL (op_mv rfl (hs 8 rfl)) | 3, _, _ => exact aL (op_mv rfl (hs 7 rfl)) | 4, _, _ => exact aL ⟨_, op_buN rfl (hd 0 rfl) (hd 1 rfl) (hd 2 rfl) (hd 3 rfl), rfl⟩ | 5, _, h => cases h | qi + 6, h, _ => omega
         intro vs X2 hb hv hal hne; have HL0 := Hd.mk (HE.out.lt); have HBW := HB; replace HB := Hd.mk (bel_then HB.out hb); replace HE := Hd.mk (HE.out.to hb); have HOL := Hd.mk HO.out.lt; replace HO := Hd.mk (HO.out.to hb); have e31 : vs 31 = .agg #[.int .i64 (((i : Nat) : Int)), .int .i64 (((j : Nat) : Int)), .int .i64 (((t : Nat) : Int)), .bool (bo q)] := hv 4 (by decide) rfl; obtain ⟨g11, e11, l11, b11⟩ : ∃ g, vs 11 = .pointer (some ⟨g, 0, none⟩) ∧ _ := hal 5 rfl; replace HE : Hd (Env X2 [⟨g11, 56, [.int .i64 0, .int .i64 0, .int .i64 0, .bool false]⟩]) := ⟨Env.addne (e := ⟨g11, 56, [.int .i64 0, .int .i64 0, .int .i64 0, .bool false]⟩) HE.out b11 (fun e' he => Nat.ne_of_lt (Nat.lt_of_lt_of_le (HL0.out e' he) l11))⟩; have HOG11 : Hd (∀ k, u5.ownBlock = some k → k < g11) := ⟨fun k hk => Nat.lt_of_lt_of_le (HOL.out k hk).2 l11⟩; have G11 : Hd (w.heap.size ≤ g11) := ⟨Nat.le_trans HBW.out.size l11⟩; simp only [PA, e31, e11]; clear hv hal hne hb HL0 HBW e31 e11 l11 b11 HOL; refine wpList_st rfl rfl rfl rfl rfl (sto_N (HE.out.get 0 rfl)) ?_; have HE' : Env (putL X2 g11 0 [.int .i64 (((i : Nat) : Int)), .int .i64 (((j : Nat) : Int)), .int .i64 (((t : Nat) : Int)), .bool (bo q)]) [⟨g11, 56, [.int .i64 (((i : Nat) : Int)), .int .i64 (((j : Nat) : Int)), .int .i64 (((t : Nat) : Int)), .bool (bo q)]⟩] := HE.out.putF 0 rfl rfl; have HB' := putL_below (show w.heap.size ≤ g11 from G11.out) [.int .i64 (((i : Nat) : Int)), .int .i64 (((j : Nat) : Int)), .int .i64 (((t : Nat) : Int)), .bool (bo q)] _ 0 HB.out; replace HO := Hd.mk (HO.out.put (vs := [.int .i64 (((i : Nat) : Int)), .int .i64 (((j : Nat) : Int)), .int .i64 (((t : Nat) : Int)), .bool (bo q)]) (o := 0) HOG11.out); generalize putL X2 g11 0 [.int .i64 (((i : Nat) : Int)), .int .i64 (((j : Nat) : Int)), .int .i64 (((t : Nat) : Int)), .bool (bo q)] = X3 at *; replace HE := Hd.mk HE'; replace HB := Hd.mk HB'; clear HE' HB'; by_cases ha : alB Wn Hn i j t = true
         ·skip
          go_upto_region 15 with fail
          refine wp_region_vd 4 [32, 33, 34, 35] [0, 1] [] 63 [.int .i64 0, .int .i64 0] [qI ((Wn : Nat) : Int), qI ((Hn : Nat) : Int), isV (.agg #[.int .i64 (((i : Nat) : Int)), .int .i64 (((j : Nat) : Int)), .int .i64 (((t : Nat) : Int)), .bool (bo q)]), qT] (by rfl) alloc_Z ?_ ?_
          ·intro qi qh qA aa wx hb hs hd
           match qi, qh, qA with
           | 0, _, _ => exact aL (op_mv rfl (hs 0 rfl)) | 1, _, _ => exact aL (op_mv rfl (hs 1 rfl)) | 2, _, _ => exact aL (op_ldN rfl rfl (hs 11 rfl) ((HE.out.to hb).get 0 rfl)) | 3, _, _ => exact aL (wp_b (bool_eq ha) (op_call3 rfl rfl Tryz.call19 (by rw [(show aa.eval (.tmp 32) = .int .i64 (((Wn : Nat) : Int)) from (hd 0 rfl)), (show aa.eval (.tmp 33) = .int .i64 (((Hn : Nat) : Int)) from (hd 1 rfl)), (show aa.eval (.tmp 34) = .agg #[.int .i64 (((i : Nat) : Int)), .int .i64 (((j : Nat) : Int)), .int .i64 (((t : Nat) : Int)), .bool (bo q)] from (hd 2 rfl))]; exact Fits_got (((Wn : Nat) : Int)) (((Hn : Nat) : Int)) (((i : Nat) : Int)) (((j : Nat) : Int)) (((t : Nat) : Int)) (bo q) _))) | qi + 4, h, _ => omega
          intro vs X4 hb hv hal hne; replace HB := Hd.mk (bel_then HB.out hb); replace HE := Hd.mk (HE.out.to hb); have HOL := Hd.mk HO.out.lt; replace HO := Hd.mk (HO.out.to hb); have e35 : vs 35 = .bool true := hv 3 (by decide) rfl; simp only [PA, e35]; clear hv hal hne hb e35 HOL; have k26a := HE.out.cell 0 0 rfl rfl; have k26b := HE.out.cell 0 1 rfl rfl; have k26c := HE.out.cell 0 2 rfl rfl; have k26d := HE.out.cell 0 3 rfl rfl
          have HLN : (mvs1 Wn Hn q ++ mvs2 Wn Hn (bo q) t ++ mvs3 Wn Hn (bo q) t i ++ mvs4 Wn Hn (bo q) t i j).length ≤ 1024 := by
           have l1 := len1 Wn Hn hWn.2 hHn.2 q; have l2 := len2 Wn Hn hWn.2 hHn.2 (bo q) t; have l3 := len3 Wn Hn hHn.2 (bo q) t i; have l4 := len4 Wn Hn (bo q) t i j; simp only [List.length_append]; omega
          have HXS := Nat.le_trans HB.out.size (Nat.le_refl _); obtain ⟨i0, hi0, hz0, hz1, hz2⟩ := info_parts Tryz.info_rmove; generalize hms : mvs1 Wn Hn q ++ mvs2 Wn Hn (bo q) t ++ mvs3 Wn Hn (bo q) t i ++ mvs4 Wn Hn (bo q) t i j = ms at HO HLN; have HMS := Hd.mk hms; clear hms; go_wp2_with (first | (at_builtin; refine wpList_append_own _ rfl (.tmp 36) (.tmp 38) 22 rfl w.heap.size 56 i0 (.agg #[.int .i64 0, .int .i64 0, .int .i64 0, .bool false]) 4 32 Tryz.underlying22 hi0 hz0 hz1 hz2 rfl (by decide) u5 ms.length (mcells ms) rfl (HO.out.alloc _) ⟨X4.heap.size, 0, none⟩ 1 1 [.int .i64 ((i : Nat) : Int), .int .i64 ((j : Nat) : Int), .int .i64 ((t : Nat) : Int), .bool (bo q)] rfl rfl ?c1 ?c2 ?c3 ?c4 ?c5 ?_) | fail)
          case c1 =>
           intro z u hz; rcases z with _ | _ | _ | _ | z <;> simp at hz <;> subst hz <;> simp [Addr.add]
          case c2 =>
           intro u hu; simp at hu; rcases hu with rfl | rfl | rfl | rfl <;> rfl
          case c3 => unfold maxLen; omega
          case c4 => omega
          case c5 => simp; omega
          intro v1 w1 hown1 hg1 _; have HB1 := (below_alloc HB.out _).grown hg1 (by simp; omega) (fun z hz => (HO.out.lt z hz).1)
          have HO1 : OwnM w.heap.size w1 v1 (mvs1 Wn Hn q ++ mvs2 Wn Hn (bo q) t ++ mvs3 Wn Hn (bo q) t i ++ mvs4 Wn Hn (bo q) t i (j + 1)) := by
           rw [show mvs4 Wn Hn (bo q) t i (j + 1) = mvs4 Wn Hn (bo q) t i j ++ [⟨i, j, t, bo q⟩] from by rw [mvs4, if_pos ha], ← List.append_assoc, HMS.out]; unfold OwnM; rw [mcells_add, List.length_append]; exact hown1
          replace HB := Hd.mk HB1; replace HO := Hd.mk HO1; clear HB1 HO1 hown1 hg1 HE; go_wp2_with fail
          go_roundw
          case rel => exact ⟨j + 1, by omega, by go_num, HO.out, HB.out⟩
          case measure => simp [intOf]; omega
         have ha' : alB Wn Hn i j t = false := by simpa using ha
         go_upto_region 15 with fail
         refine wp_region_vd 4 [32, 33, 34, 35] [0, 1] [] 63 [.int .i64 0, .int .i64 0] [qI ((Wn : Nat) : Int), qI ((Hn : Nat) : Int), isV (.agg #[.int .i64 (((i : Nat) : Int)), .int .i64 (((j : Nat) : Int)), .int .i64 (((t : Nat) : Int)), .bool (bo q)]), qF] (by rfl) alloc_Z ?_ ?_
         ·intro qi qh qA aa wx hb hs hd
          match qi, qh, qA with
          | 0, _, _ => exact aL (op_mv rfl (hs 0 rfl)) | 1, _, _ => exact aL (op_mv rfl (hs 1 rfl)) | 2, _, _ => exact aL (op_ldN rfl rfl (hs 11 rfl) ((HE.out.to hb).get 0 rfl)) | 3, _, _ => exact aL (wp_b (bool_eq ha') (op_call3 rfl rfl Tryz.call19 (by rw [(show aa.eval (.tmp 32) = .int .i64 (((Wn : Nat) : Int)) from (hd 0 rfl)), (show aa.eval (.tmp 33) = .int .i64 (((Hn : Nat) : Int)) from (hd 1 rfl)), (show aa.eval (.tmp 34) = .agg #[.int .i64 (((i : Nat) : Int)), .int .i64 (((j : Nat) : Int)), .int .i64 (((t : Nat) : Int)), .bool (bo q)] from (hd 2 rfl))]; exact Fits_got (((Wn : Nat) : Int)) (((Hn : Nat) : Int)) (((i : Nat) : Int)) (((j : Nat) : Int)) (((t : Nat) : Int)) (bo q) _))) | qi + 4, h, _ => omega
         intro vs X4 hb hv hal hne; replace HB := Hd.mk (bel_then HB.out hb); replace HE := Hd.mk (HE.out.to hb); have HOL := Hd.mk HO.out.lt; replace HO := Hd.mk (HO.out.to hb); have e35 : vs 35 = .bool false := hv 3 (by decide) rfl; simp only [PA, e35]; clear hv hal hne hb e35 HOL
         have HO1 : OwnM w.heap.size X4 u5 (mvs1 Wn Hn q ++ mvs2 Wn Hn (bo q) t ++ mvs3 Wn Hn (bo q) t i ++ mvs4 Wn Hn (bo q) t i (j + 1)) := by
          rw [show mvs4 Wn Hn (bo q) t i (j + 1) = mvs4 Wn Hn (bo q) t i j from by rw [mvs4, if_neg ha, List.append_nil]]; exact HO.out
         replace HO := Hd.mk HO1; clear HO1; go_wp2_with fail
         go_roundw
         case rel => exact ⟨j + 1, by omega, by go_num, HO.out, HB.out⟩
         case measure => simp [intOf]; omega
        have e1 : j = Hn := by omega
        have HO1 : OwnM w.heap.size wr u5 (mvs1 Wn Hn q ++ mvs2 Wn Hn (bo q) t ++ mvs3 Wn Hn (bo q) t (i + 1)) := by
         have h := HO.out; rw [e1] at h; rw [mvs3, ← List.append_assoc]; exact h
        replace HO := Hd.mk HO1; clear HO1; go_wp2_with fail
        go_roundw
        case rel => exact ⟨i + 1, by omega, by go_num, HO.out, HB.out⟩
        case measure => simp [intOf]; omega
      have e1 : i = Wn := by omega
      have HO1 : OwnM w.heap.size wr u5 (mvs1 Wn Hn q ++ mvs2 Wn Hn (bo q) (t + 1)) := by
       have h := HO.out; rw [e1] at h; rw [mvs2, ← List.append_assoc]; exact h
      replace HO := Hd.mk HO1; clear HO1; go_wp2_with fail
      go_roundw
      case rel => exact ⟨t + 1, by omega, by go_num, HO.out, HB.out⟩
      case measure => simp [intOf]; omega
    have e1 : t = 4 := by omega
    have HO1 : OwnM w.heap.size wr u5 (mvs1 Wn Hn (q + 1)) := by
     have h := HO.out; rw [e1] at h; rw [mvs1]; exact h
    replace HO := Hd.mk HO1; clear HO1; go_wp2_with fail
    go_roundw
    case rel => exact ⟨q + 1, by omega, by go_num, HO.out, HB.out⟩
    case measure => simp [intOf]; omega
  have e1 : q = 2 := by omega
  go_wp2_with fail
  go_ret
  exact ⟨u5, rfl, HB.out, by rw [← e1]; exact HO.out⟩
section
variable {W H : Int} {m n : Mv}
end
theorem mcells_at : ∀ {ms : List Mv} {j : Nat} {m : Mv}, ms[j]? = some m → (mcells ms)[j * 4]? = some (.int .i64 m.x) ∧ (mcells ms)[j * 4 + 1]? = some (.int .i64 m.y) ∧ (mcells ms)[j * 4 + 2]? = some (.int .i64 m.t) ∧ (mcells ms)[j * 4 + 3]? = some (.bool m.f)
 | [], j, m, h => by simp at h
 | n :: ms, 0, m, h => by
  simp only [List.getElem?_cons_zero, Option.some.injEq] at h; subst h; exact ⟨rfl, rfl, rfl, rfl⟩
 | n :: ms, j + 1, m, h => by
  rw [List.getElem?_cons_succ] at h; have ih := mcells_at h; have e : mcells (n :: ms) = [.int .i64 n.x, .int .i64 n.y, .int .i64 n.t, .bool n.f] ++ mcells ms := rfl
  have key : ∀ c, (mcells (n :: ms))[(j + 1) * 4 + c]? = (mcells ms)[j * 4 + c]? := by
   intro c; rw [e, List.getElem?_append_right (by simp; omega)]; congr 1
   simp; omega
  exact ⟨(key 0).trans ih.1, (key 1).trans ih.2.1, (key 2).trans ih.2.2.1, (key 3).trans ih.2.2.2⟩
def isMs (lo : Nat) (ms : List Mv) : SP := ⟨fun v w => OwnM lo w v ms, fun v w w' h hb => h.to hb⟩
section
variable {lo lo' g k j : Nat} {w w' : World} {v : Value} {ms : List Mv} {m : Mv}
theorem OwnM.lower (h : lo ≤ lo') (ho : OwnM lo' w v ms) : OwnM lo w v ms := by
 refine ⟨ho.1, ?_⟩; rcases ho.2 with hn | ⟨g', cap, cur, rfl, hb, hgg, rest⟩
 ·exact .inl hn
 exact .inr ⟨g', cap, cur, rfl, by omega, hgg, rest⟩
theorem got_ms {P : Program} {f : Nat} {vs : Array Value} (h : lo ≤ lo') (hc : Calls P f vs w (Got w (isMs lo' ms).p)) : Calls P f vs w (Got w (isMs lo ms).p) :=
 hc.mono fun e w' ⟨v, h1, h2, h3⟩ => ⟨v, h1, h2, OwnM.lower h h3⟩
theorem own_shape (h : OwnM lo w v ms) (hne : ms ≠ []) : ∃ g k, v = .slice (some ⟨g, 0, none⟩) ms.length k := by
 rcases h.2 with ⟨_, hn⟩ | ⟨g', cap, cur, rfl, _⟩
 ·exact absurd (List.eq_nil_of_length_eq_zero hn) hne
 exact ⟨g', cap, rfl⟩
theorem own_len (h : OwnM lo w v ms) : ∃ A k, v = .slice A ms.length k := by
 rcases h.2 with ⟨rfl, hn⟩ | ⟨g', cap, cur, rfl, _⟩
 ·exact ⟨none, 0, by rw [hn]⟩
 exact ⟨_, cap, rfl⟩
theorem own_at (h : OwnM lo w (.slice (some ⟨g, 0, none⟩) ms.length k) ms) (hx : ms[j]? = some m) :
  w.cell? ⟨g, j * 4, none⟩ = some (.int .i64 m.x) ∧ w.cell? ⟨g, j * 4 + 1, none⟩ = some (.int .i64 m.y) ∧ w.cell? ⟨g, j * 4 + 2, none⟩ = some (.int .i64 m.t) ∧ w.cell? ⟨g, j * 4 + 3, none⟩ = some (.bool m.f) := by
 have hc := World.ownsRow.cells h (g := g) rfl; have hm := mcells_at hx; have ha : ∀ q : Nat, (⟨g, 0, none⟩ : Addr).add q = ⟨g, q, none⟩ := fun q => by unfold Addr.add; split <;> simp_all
 refine ⟨?_, ?_, ?_, ?_⟩
 ·have := hc _ _ hm.1; rwa [ha] at this
 ·have := hc _ _ hm.2.1; rwa [ha] at this
 ·have := hc _ _ hm.2.2.1; rwa [ha] at this
 have := hc _ _ hm.2.2.2; rwa [ha] at this
theorem Env.front : ∀ {L L' : List Ent}, Env w (L ++ L') → Env w L
 | [], _, _ => trivial
 | e :: L, L', ⟨h1, h2, h3⟩ => ⟨h1, fun e' he => h2 e' (List.mem_append_left _ he), Env.front h3⟩
end
section
variable {Q : Exit → Act → World → Prop} {o : Oper} {a : Act} {w : World} {d g off j n k lo : Nat} {x y : Operand} {ty : TypeId} {m m' : Mv} {ms : List Mv} {P : Program}
theorem op_lenMs (ho : o.op = .call { callee := .builtin .len, args := #[x], argTypes := #[22] }) (hd : o.dst = some d) (hx : (isMs lo ms).p (a.eval x) w) : o.wp Tryz.prog a w (Post a w d (isV (.int .i64 ((ms.length : Nat) : Int))).p) Q := by
 obtain ⟨A, k, hx⟩ := own_len hx; refine op_run (v := .int .i64 (ms.length : Int)) hd ?_ rfl; generalize a.eval = ev at hx ⊢; unfold execOp; simp only [ho]; simp [go_sem, hx]
theorem op_idxM (h1 : j < n) (ho : o.op = .indexAddr 22 x y) (hx : a.eval x = .slice (some ⟨g, 0, none⟩) n k) (hy : a.eval y = .int .i64 (j : Int)) (w : World) : (execOp a.eval o).run Tryz.prog w = .ok (.value (.pointer (some ⟨g, j * 4, none⟩))) w := by
 generalize a.eval = ev at hx hy ⊢; unfold execOp; simp only [ho, hx, hy]; have ha : ∀ q : Nat, (⟨g, 0, none⟩ : Addr).add q = ⟨g, q, none⟩ := fun q => by unfold Addr.add; split <;> simp_all
 simp [go_sem, h1, ha]
theorem op_ldMs (ho : o.op = .load 56 x) (hd : o.dst = some d) (hx : a.eval x = .pointer (some ⟨g, off, none⟩))
  (h : w.cell? ⟨g, off, none⟩ = some (.int .i64 m.x) ∧ w.cell? ⟨g, off + 1, none⟩ = some (.int .i64 m.y) ∧ w.cell? ⟨g, off + 2, none⟩ = some (.int .i64 m.t) ∧ w.cell? ⟨g, off + 3, none⟩ = some (.bool m.f)) :
  o.wp Tryz.prog a w (Post a w d (isV (.agg #[.int .i64 m.x, .int .i64 m.y, .int .i64 m.t, .bool m.f])).p) Q := by
 obtain ⟨h0, h1, h2, h3⟩ := h; refine op_load (v := .agg #[.int .i64 m.x, .int .i64 m.y, .int .i64 m.t, .bool m.f]) ho hd hx ?_ rfl; simp [go_sem, h0, h1, h2, h3]
end
def RdM (w : World) (A : Option Addr) (ms : List Mv) : Prop := ∀ (j : Nat) (m : Mv), ms[j]? = some m → ∃ ad, A = some ad ∧ w.cell? (ad.add (j * 4)) = some (.int .i64 m.x) ∧ w.cell? ((ad.add (j * 4)).add 1) = some (.int .i64 m.y) ∧ w.cell? ((ad.add (j * 4)).add 2) = some (.int .i64 m.t) ∧ w.cell? ((ad.add (j * 4)).add 3) = some (.bool m.f)
section
variable {w w' : World} {A : Option Addr} {ad : Addr} {ms : List Mv} {m : Mv} {lo lo' g k j n : Nat} {v : Value} {vs : List Value} {o : Nat}
theorem RdM.to (h : RdM w A ms) (hb : Below w.heap.size w w') : RdM w' A ms := fun j m hj => by
 obtain ⟨ad, e, h0, h1, h2, h3⟩ := h j m hj; have key : ∀ {p : Addr} {u : Value}, w.cell? p = some u → w'.cell? p = some u := fun {p u} hp => (hb.cell (World.block_lt_of_cell? w _ hp)).trans hp
 exact ⟨ad, e, key h0, key h1, key h2, key h3⟩
theorem RdM.at_ (h : RdM w (some ad) ms) (hj : ms[j]? = some m) : w.cell? (ad.add (j * 4)) = some (.int .i64 m.x) ∧ w.cell? ((ad.add (j * 4)).add 1) = some (.int .i64 m.y) ∧ w.cell? ((ad.add (j * 4)).add 2) = some (.int .i64 m.t) ∧ w.cell? ((ad.add (j * 4)).add 3) = some (.bool m.f) := by
 obtain ⟨ad', e, h⟩ := h j m hj; cases e
 exact h
theorem RdM.some_ (h : RdM w A ms) (hj : ms[j]? = some m) : ∃ ad, A = some ad := let ⟨ad, e, _⟩ := h j m hj; ⟨ad, e⟩
def OwnS (lo : Nat) (w : World) (v : Value) (ms : List Mv) : Prop := w.ownsRow lo 65 4 v ms.length (mcells ms)
theorem OwnS.to (h : OwnS lo w v ms) (hb : Below w.heap.size w w') : OwnS lo w' v ms := own_to h hb
theorem OwnS.put (h : OwnS lo w v ms) (hlt : ∀ k, v.ownBlock = some k → k < g) : OwnS lo (putL w g o vs) v ms := own_put hlt h
theorem OwnS.lt (h : OwnS lo w v ms) : ∀ k, v.ownBlock = some k → lo ≤ k ∧ k < w.heap.size := World.ownsRow.lt h
theorem row_reads {e : TypeId} (h : w.ownsRow lo e 4 v ms.length (mcells ms)) : ∃ A k, v = .slice A ms.length k ∧ RdM w A ms ∧ ms.length ≤ k ∧ (A = none → k = 0) ∧ (∀ ad, A = some ad → lo ≤ ad.block) := by
 have h' := h; rcases h.2 with ⟨rfl, hn⟩ | ⟨g', cap, cur, rfl, hlo, hgg, hnc, _⟩
 ·refine ⟨none, 0, by rw [hn], fun j m hj => ?_, by omega, fun _ => rfl, fun ad e => by cases e⟩; have : ms = [] := List.eq_nil_of_length_eq_zero hn; rw [this] at hj; cases hj
 refine ⟨_, cap, rfl, fun j m hj => ⟨_, rfl, ?_⟩, hnc, fun e => by (cases e), fun ad e => by (cases e; exact hlo)⟩; have hc := World.ownsRow.cells h' (g := g') rfl; have hm := mcells_at hj; have ha : ∀ q : Nat, (⟨g', 0, none⟩ : Addr).add q = ⟨g', q, none⟩ := fun q => by unfold Addr.add; split <;> simp_all
 rw [Addr.add_add, Addr.add_add, Addr.add_add]; exact ⟨hc _ _ hm.1, hc _ _ hm.2.1, hc _ _ hm.2.2.1, hc _ _ hm.2.2.2⟩
def isSs (lo : Nat) (ms : List Mv) : SP := ⟨fun v w => OwnS lo w v ms, fun v w w' h hb => h.to hb⟩
end
section
variable {Q : Exit → Act → World → Prop} {o : Oper} {a : Act} {w : World} {d j n k : Nat} {x y : Operand} {m : Mv} {ad : Addr} {A : Option Addr}
theorem op_asgE {P : Program} {y : Operand} {v : Value} (ho : o.op = .assign y) (hx : a.eval y = v) (w : World) : (execOp a.eval o).run P w = .ok (.value v) w := by
 unfold execOp; simp only [ho, hx, Sem.run_pure]
theorem op_idxVN (h1 : j < n) (ho : o.op = .indexAddr 22 x y) (hx : a.eval x = .slice (some ad) n k) (hy : a.eval y = .int .i64 (j : Int)) (w : World) : (execOp a.eval o).run Tryz.prog w = .ok (.value (.pointer (some (ad.add (j * 4))))) w := by
 generalize a.eval = ev at hx hy ⊢; unfold execOp; simp only [ho, hx, hy]; simp [go_sem, h1]
theorem op_ldvVN {p : Addr} (ho : o.op = .load 56 x) (hd : o.dst = some d) (hx : a.eval x = .pointer (some p))
  (h : w.cell? p = some (.int .i64 m.x) ∧ w.cell? (p.add 1) = some (.int .i64 m.y) ∧ w.cell? (p.add 2) = some (.int .i64 m.t) ∧ w.cell? (p.add 3) = some (.bool m.f)) :
  o.wp Tryz.prog a w (Post a w d (isV (.agg #[.int .i64 m.x, .int .i64 m.y, .int .i64 m.t, .bool m.f])).p) Q := by
 obtain ⟨h0, h1, h2, h3⟩ := h; simp only [Addr.add_succ'] at h1 h2 h3; refine op_load (v := .agg #[.int .i64 m.x, .int .i64 m.y, .int .i64 m.t, .bool m.f]) ho hd hx ?_ rfl; simp [go_sem, h0, h1, h2, h3]
theorem op_lenvVN (ho : o.op = .call { callee := .builtin .len, args := #[x], argTypes := #[22] }) (hd : o.dst = some d) (hx : a.eval x = .slice A n k) : o.wp Tryz.prog a w (Post a w d (isV (.int .i64 ((n : Nat) : Int))).p) Q := by
 refine op_run (v := .int .i64 (n : Int)) hd ?_ rfl; generalize a.eval = ev at hx ⊢; unfold execOp; simp only [ho]; simp [go_sem, hx]
theorem op_idxVM (h1 : j < n) (ho : o.op = .indexAddr 29 x y) (hx : a.eval x = .slice (some ad) n k) (hy : a.eval y = .int .i64 (j : Int)) (w : World) : (execOp a.eval o).run Tryz.prog w = .ok (.value (.pointer (some (ad.add (j * 4))))) w := by
 generalize a.eval = ev at hx hy ⊢; unfold execOp; simp only [ho, hx, hy]; simp [go_sem, h1]
theorem op_ldvVM {p : Addr} (ho : o.op = .load 65 x) (hd : o.dst = some d) (hx : a.eval x = .pointer (some p))
  (h : w.cell? p = some (.int .i64 m.x) ∧ w.cell? (p.add 1) = some (.int .i64 m.y) ∧ w.cell? (p.add 2) = some (.int .i64 m.t) ∧ w.cell? (p.add 3) = some (.bool m.f)) :
  o.wp Tryz.prog a w (Post a w d (isV (.agg #[.int .i64 m.x, .int .i64 m.y, .int .i64 m.t, .bool m.f])).p) Q := by
 obtain ⟨h0, h1, h2, h3⟩ := h; simp only [Addr.add_succ'] at h1 h2 h3; refine op_load (v := .agg #[.int .i64 m.x, .int .i64 m.y, .int .i64 m.t, .bool m.f]) ho hd hx ?_ rfl; simp [go_sem, h0, h1, h2, h3]
theorem op_lenvVM (ho : o.op = .call { callee := .builtin .len, args := #[x], argTypes := #[29] }) (hd : o.dst = some d) (hx : a.eval x = .slice A n k) : o.wp Tryz.prog a w (Post a w d (isV (.int .i64 ((n : Nat) : Int))).p) Q := by
 refine op_run (v := .int .i64 (n : Int)) hd ?_ rfl; generalize a.eval = ev at hx ⊢; unfold execOp; simp only [ho]; simp [go_sem, hx]
end
theorem Tryz.info_smove : (Tryz.prog.info? 65).map (fun i => (i.zero, i.size, i.bytes)) = some (some (.agg #[.int .i64 0, .int .i64 0, .int .i64 0, .bool false]), 4, 32) := by kernel_rfl
set_option maxRecDepth 100000 in
set_option maxHeartbeats 1000000 in
theorem moves_got (A : Option Addr) (k : Nat) (ms : List Mv) (w : World) (hrm : RdM w A ms) (hln : ms.length ≤ 9223372036854775807) :
  Calls Tryz.prog 6 #[.slice A ms.length k] w (Got w (isSs w.heap.size (ms.take 521)).p) := by
 have HRM := Hd.mk hrm; clear hrm; go_enter Tryz.func6, Tryz.ntmps6
 go_upto_region 2 with fail
 have HE : Hd (Env w []) := ⟨trivial⟩; have HB : Hd (Below w.heap.size w w) := ⟨Below.refl _ _⟩; refine wp_region_vd 3 [6, 7, 8] [0, 2] [] 63 [.int .i64 0, .int .i64 0] [isV (.slice A ms.length k), qI ((ms.length : Nat) : Int), qI 0] (by rfl) alloc_Z ?_ ?_
 ·intro qi qh qA aa wx hb hs hd
  match qi, qh, qA with
  | 0, _, _ => exact aL (op_mv rfl (hs 0 rfl)) | 1, _, _ => exact aL (op_lenvVN rfl rfl (hd 0 rfl)) | 2, _, _ => exact aL (op_mv rfl rfl) | qi + 3, h, _ => omega
 intro vs X1 hb hv hal hne; replace HB := Hd.mk (bel_then HB.out hb); replace HE := Hd.mk (HE.out.to hb); have e6 : vs 6 = .slice A ms.length k := hv 0 (by decide) rfl; have e7 : vs 7 = .int .i64 (((ms.length : Nat) : Int)) := hv 1 (by decide) rfl; have e8 : vs 8 = .int .i64 0 := hv 2 (by decide) rfl; simp only [PA, e6, e7, e8]; clear hv hal hne hb e6 e7 e8; have HO : Hd (OwnS w.heap.size X1 (.slice none 0 0) []) := ⟨World.ownsRow_nil _ _ _ _⟩; go_wp2_with fail
 go_loopw [3, 8] (fun s3 s8 wr => ∃ j : Nat, j ≤ ms.length ∧ j ≤ 521 ∧ s8 = .int .i64 j ∧ OwnS w.heap.size wr s3 (ms.take j) ∧ Below w.heap.size w wr) (fun _ s8 _ => ms.length - (intOf s8).toNat)
 case atStart => exact ⟨0, Nat.zero_le _, by omega, rfl, HO.out, HB.out⟩
 case round =>
  obtain ⟨j, hjl, hj5, rfl, ho, hb⟩ := hrel; clear HB HE HO; have HB := Hd.mk hb; have HO := Hd.mk ho; have HE : Hd (Env wr []) := ⟨trivial⟩; clear ho hb; by_cases hj : j < ms.length
  ·obtain ⟨m, hm⟩ : ∃ m, ms[j]? = some m := ⟨_, List.getElem?_eq_getElem hj⟩; obtain ⟨ad, rfl⟩ := HRM.out.some_ hm; have HM := Hd.mk hm; clear hm; go_upto_region 4 with fail
   refine wp_region_vd 4 [10, 11, 12, 5] [0] [3] 56 [.int .i64 0, .int .i64 0, .int .i64 0, .bool false] [qI ((j : Nat) : Int), isV (.pointer (some (ad.add (j * 4)))), isV (.agg #[.int .i64 m.x, .int .i64 m.y, .int .i64 m.t, .bool m.f]), SP.any] (by rfl) alloc_N ?_ ?_
   ·intro qi qh qA aa wx hb hs hd
    match qi, qh, qA with
    | 0, _, _ => exact aL (op_mv rfl (hs 8 rfl)) | 1, _, _ => exact aL (op_run rfl (op_idxVN hj rfl (hs 6 rfl) (hs 8 rfl) _) rfl) | 2, _, _ => exact aL (op_ldvVN rfl rfl (hd 1 rfl) ((HRM.out.to (bel_then HB.out hb)).at_ HM.out)) | 3, _, h => cases h | qi + 4, h, _ => omega
   intro vs X1 hb hv hal hne; have HL0 := Hd.mk (HE.out.lt); have HBW := HB; replace HB := Hd.mk (bel_then HB.out hb); replace HE := Hd.mk (HE.out.to hb); have HOL := Hd.mk HO.out.lt; replace HO := Hd.mk (HO.out.to hb); have e10 : vs 10 = .int .i64 (((j : Nat) : Int)) := hv 0 (by decide) rfl; have e12 : vs 12 = .agg #[.int .i64 m.x, .int .i64 m.y, .int .i64 m.t, .bool m.f] := hv 2 (by decide) rfl; obtain ⟨g5, e5, l5, b5⟩ : ∃ g, vs 5 = .pointer (some ⟨g, 0, none⟩) ∧ _ := hal 3 rfl; replace HE : Hd (Env X1 [⟨g5, 56, [.int .i64 0, .int .i64 0, .int .i64 0, .bool false]⟩]) := ⟨Env.addne (e := ⟨g5, 56, [.int .i64 0, .int .i64 0, .int .i64 0, .bool false]⟩) HE.out b5 (fun e' he => Nat.ne_of_lt (Nat.lt_of_lt_of_le (HL0.out e' he) l5))⟩; have HOG5 : Hd (∀ k, u3.ownBlock = some k → k < g5) := ⟨fun k hk => Nat.lt_of_lt_of_le (HOL.out k hk).2 l5⟩; have G5 : Hd (w.heap.size ≤ g5) := ⟨Nat.le_trans HBW.out.size l5⟩; simp only [PA, e10, e12, e5]; clear hv hal hne hb HL0 HBW e10 e12 e5 l5 b5 HOL; refine wpList_run rfl (op_asgE (v := .int .i64 (((j : Nat) : Int))) rfl rfl _) ?_; simp only [Act.put, List.setIfInBounds_toArray, List.set_cons_succ, List.set_cons_zero]; refine wpList_st rfl rfl rfl rfl rfl (sto_N (HE.out.get 0 rfl)) ?_; have HE' : Env (putL X1 g5 0 [.int .i64 m.x, .int .i64 m.y, .int .i64 m.t, .bool m.f]) [⟨g5, 56, [.int .i64 m.x, .int .i64 m.y, .int .i64 m.t, .bool m.f]⟩] := HE.out.putF 0 rfl rfl; have HB' := putL_below (show w.heap.size ≤ g5 from G5.out) [.int .i64 m.x, .int .i64 m.y, .int .i64 m.t, .bool m.f] _ 0 HB.out; replace HO := Hd.mk (HO.out.put (vs := [.int .i64 m.x, .int .i64 m.y, .int .i64 m.t, .bool m.f]) (o := 0) HOG5.out); generalize putL X1 g5 0 [.int .i64 m.x, .int .i64 m.y, .int .i64 m.t, .bool m.f] = X2 at *; replace HE := Hd.mk HE'; replace HB := Hd.mk HB'; clear HE' HB'; by_cases h5 : 520 < j
   ·skip
    go_upto_region 5 with fail
    refine wp_region_vd 2 [13, 14] [0, 1] [] 63 [.int .i64 0, .int .i64 0] [qI ((j : Nat) : Int), qT] (by rfl) alloc_Z ?_ ?_
    ·intro qi qh qA aa wx hb hs hd
     match qi, qh, qA with
     | 0, _, _ => exact aL (op_mv rfl (hs 4 rfl)) | 1, _, _ => exact aL (pure_b (bool_eq (decide_eq_true (by omega))) (⟨_, op_gtrI rfl (hd 0 rfl) rfl, rfl⟩)) | qi + 2, h, _ => omega
    intro vs X3 hb hv hal hne; replace HB := Hd.mk (bel_then HB.out hb); replace HE := Hd.mk (HE.out.to hb); have HOL := Hd.mk HO.out.lt; replace HO := Hd.mk (HO.out.to hb); have e14 : vs 14 = .bool true := hv 1 (by decide) rfl; simp only [PA, e14]; clear hv hal hne hb e14 HOL; have e5 : j = 521 := by omega
    have HO1 : OwnS w.heap.size X3 u3 (ms.take 521) := by rw [← e5]; exact HO.out
    go_wp2_with fail
    go_ret
    exact ⟨u3, rfl, HB.out, HO1⟩
   go_upto_region 5 with fail
   refine wp_region_vd 2 [13, 14] [0, 1] [] 63 [.int .i64 0, .int .i64 0] [qI ((j : Nat) : Int), qF] (by rfl) alloc_Z ?_ ?_
   ·intro qi qh qA aa wx hb hs hd
    match qi, qh, qA with
    | 0, _, _ => exact aL (op_mv rfl (hs 4 rfl)) | 1, _, _ => exact aL (pure_b (bool_eq (decide_eq_false (by omega))) (⟨_, op_gtrI rfl (hd 0 rfl) rfl, rfl⟩)) | qi + 2, h, _ => omega
   intro vs X3 hb hv hal hne; replace HB := Hd.mk (bel_then HB.out hb); replace HE := Hd.mk (HE.out.to hb); have HOL := Hd.mk HO.out.lt; replace HO := Hd.mk (HO.out.to hb); have e14 : vs 14 = .bool false := hv 1 (by decide) rfl; simp only [PA, e14]; clear hv hal hne hb e14 HOL; have k26a := HE.out.cell 0 0 rfl rfl; have k26b := HE.out.cell 0 1 rfl rfl; have k26c := HE.out.cell 0 2 rfl rfl; have k26d := HE.out.cell 0 3 rfl rfl; have HLN : (ms.take j).length ≤ 1024 := by rw [List.length_take]; omega
   have HXS := Nat.le_trans HB.out.size (Nat.le_refl _); obtain ⟨i0, hi0, hz0, hz1, hz2⟩ := info_parts Tryz.info_smove; have HTK := Hd.mk (show ms.take (j + 1) = ms.take j ++ [m] from by rw [List.take_add_one, HM.out]; rfl); generalize hms : ms.take j = zs at HO HLN HTK; clear hms; go_wp2_with (first | (go_at_call 29; refine (move_got m.x m.y m.t m.f _).mono ?_; rintro e w2 ⟨v2, rfl, hb2, rfl⟩; have HE2 := HE.out.to hb2) | (at_builtin; refine wpList_append_own _ rfl (.tmp 15) (.tmp 18) 29 rfl w.heap.size 65 i0 (.agg #[.int .i64 0, .int .i64 0, .int .i64 0, .bool false]) 4 32 Tryz.underlying29 hi0 hz0 hz1 hz2 rfl (by decide) u3 zs.length (mcells zs) rfl ((HO.out.to hb2).alloc _) ⟨w2.heap.size, 0, none⟩ 1 1 [.int .i64 m.x, .int .i64 m.y, .int .i64 m.t, .bool m.f] rfl rfl ?c1 ?c2 ?c3 ?c4 ?c5 ?_) | fail)
   case c1 =>
    intro z u hz; rcases z with _ | _ | _ | _ | z <;> simp at hz <;> subst hz <;> simp [Addr.add]
   case c2 =>
    intro u hu; simp at hu; rcases hu with rfl | rfl | rfl | rfl <;> rfl
   case c3 => unfold maxLen; omega
   case c4 => omega
   case c5 => have := hb2.size; simp; omega
   intro v1 w1 hown1 hg1 _; have HB2 := bel_then HB.out hb2; have HB1 := (below_alloc HB2 _).grown hg1 (by have := HB2.size; simp; omega) (fun z hz => (HO.out.lt z hz).1)
   have HO1 : OwnS w.heap.size w1 v1 (ms.take (j + 1)) := by
    rw [HTK.out]; unfold OwnS; rw [mcells_add, List.length_append]; exact hown1
   replace HB := Hd.mk HB1; replace HO := Hd.mk HO1; clear HB1 HO1 hown1 hg1 HE HE2 HB2; go_wp2_with fail
   go_roundw
   case rel => exact ⟨j + 1, by omega, by omega, by go_num, HO.out, HB.out⟩
   case measure => simp [intOf]; omega
  have e1 : j = ms.length := by omega
  have HO1 : OwnS w.heap.size wr u3 (ms.take 521) := by
   have h := HO.out; rw [List.take_of_length_le (by omega)] at h; rwa [List.take_of_length_le (by omega)]
  go_wp2_with fail
  go_ret
  exact ⟨u3, rfl, HB.out, HO1⟩
end Go.Proofs.YtddbmckbankmeaaGreat
set_option linter.unusedVariables false
namespace Go.Proofs.YtddbmckbankmeaaGreat
open Go.ChangeShapes Go.WideShapes Go.ChangeAt Go.RowKit Go.Joins
theorem cellsIntR : Tryz.prog.cellsOf 3 = 1 := by kernel_rfl
theorem cellsBoolR : Tryz.prog.cellsOf 4 = 1 := by kernel_rfl
structure RMs where
 A : Option Addr
 k : Nat
 ms : List Mv
def RMs.v (r : RMs) : Value := .slice r.A r.ms.length r.k
def RMs.at_ (r : RMs) (w : World) : Prop := RdM w r.A r.ms ∧ r.ms.length ≤ 9223372036854775807
set_option maxRecDepth 100000 in
theorem move_trod {H : Type} {enc : TypeId × Value → H} {W : World} {n : Nat} {cs : List Value} {y : DataW H × List MemPlace}
  (h : DataW.trod enc Tryz.prog W 0 (fun _ => true) true n 56 cs = some y) : ∃ m : Mv, cs = [.int .i64 m.x, .int .i64 m.y, .int .i64 m.t, .bool m.f] := by
 obtain ⟨y0, y1, y2, y3, m, hx, hl, h0, h1, h2, h3⟩ := trod_struct4 Tryz.underlying56 h; have hl4 : cs.length = 4 := hl.trans cellsMove
 match cs, hl4 with
 | [c0, c1, c2, c3], _ =>
  have h0' : DataW.trod enc Tryz.prog W 0 (fun _ => true) true m 3 [c0] = some y0 := by simpa [cellsIntR] using h0
  have h1' : DataW.trod enc Tryz.prog W 0 (fun _ => true) true m 3 [c1] = some y1 := by simpa [cellsIntR] using h1
  have h2' : DataW.trod enc Tryz.prog W 0 (fun _ => true) true m 3 [c2] = some y2 := by simpa [cellsIntR] using h2
  have h3' : DataW.trod enc Tryz.prog W 0 (fun _ => true) true m 4 [c3] = some y3 := by simpa [cellsBoolR] using h3
  obtain ⟨a0, e0, _, _⟩ := DataW.trod_int Tryz.underlying3 h0'; obtain ⟨a1, e1, _, _⟩ := DataW.trod_int Tryz.underlying3 h1'; obtain ⟨a2, e2, _, _⟩ := DataW.trod_int Tryz.underlying3 h2'; obtain ⟨a3, e3, _⟩ := DataW.trod_bool Tryz.underlying4 h3'; simp at e0 e1 e2 e3; subst e0 e1 e2 e3; exact ⟨⟨a0, a1, a2, a3⟩, rfl⟩
set_option maxRecDepth 100000 in
theorem open_Moves {H : Type} {enc : TypeId × Value → H} {W : World} {base : Nat} {v : Value} {d : DataW H} {p : List MemPlace}
  (hv : Value.okWide Tryz.prog W .any base 22 v) (h : DataW.Trod enc Tryz.prog W 0 (fun _ => true) true 22 v d p) : ∃ r : RMs, v = r.v ∧ r.at_ W := by
 obtain ⟨fuel, hf⟩ := h; have hvc : ∃ A l k, v = .slice A l k := okWide_slice Tryz.underlying22 hv; obtain ⟨A, l, k, rfl⟩ := hvc; rcases DataW.trod_slice Tryz.underlying22 hf with ⟨hcs, _⟩ | ⟨a, len, cap, elems, rest, n, _, hcs, _, hb, hl, hm, hlen, hel, hsp, hns⟩
 ·simp [Value.cells] at hcs; obtain ⟨rfl, rfl, rfl⟩ := hcs; refine ⟨⟨none, 0, []⟩, rfl, ?_, ?_⟩
  ·intro j m hj; cases hj
  show 0 ≤ _; omega
 simp [Value.cells] at hcs; obtain ⟨rfl, rfl, rfl⟩ := hcs
 have each : ∀ i, i < l → ∃ m : Mv, W.cells? 0 (a.add (i * 4)) 4 = some [.int .i64 m.x, .int .i64 m.y, .int .i64 m.t, .bool m.f] := by
  intro i hi; have he := hel i hi; rw [List.getElem?_eq_getElem (by omega), cellsMove] at he
  cases hc : W.cells? 0 (a.add (i * 4)) 4 with
  | none => rw [hc] at he; simp at he
  | some cs =>
   rw [hc] at he; simp only [Option.bind_some] at he; obtain ⟨m, rfl⟩ := move_trod he; exact ⟨m, rfl⟩
 refine ⟨⟨some a, k, (List.range l).map fun i => if hi : i < l then (each i hi).choose else ⟨0, 0, 0, false⟩⟩, ?_, ?_, ?_⟩
 ·unfold RMs.v; simp
 ·intro j m hj; refine ⟨a, rfl, ?_⟩; rw [List.getElem?_map] at hj
  have hjl : j < l := by
   cases hr : (List.range l)[j]? with
   | none => rw [hr] at hj; cases hj
   | some z => have := (List.getElem?_eq_some_iff.1 hr).1; simpa using this
  rw [List.getElem?_range hjl] at hj; simp only [Option.map_some, Option.some.injEq, dif_pos hjl] at hj; have hc := (each j hjl).choose_spec; rw [hj] at hc; have hq := (World.cells?_some hc).2.2; have q0 := hq 0 (by simp); have q1 := hq 1 (by simp); have q2 := hq 2 (by simp); have q3 := hq 3 (by simp); simp only [Addr.add_add] at q0 q1 q2 q3 ⊢; simp at q0 q1 q2 q3; exact ⟨q0, q1, q2, q3⟩
 show ((List.range l).map _).length ≤ _; rw [List.length_map, List.length_range]; unfold maxLen at hm; omega
end Go.Proofs.YtddbmckbankmeaaGreat
