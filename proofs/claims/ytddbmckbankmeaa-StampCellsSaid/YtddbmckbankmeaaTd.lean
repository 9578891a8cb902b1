/- The reference's list of all moves of a size. -/
import Derived.Test.YtddbmckbankmeaaTc
import Derived.OwnWalk
import Derived.WalkKit
set_option linter.unusedVariables false
set_option linter.unusedSimpArgs false
namespace Go.Proofs.Ytddbmckbankmeaa
open Go.RowKit
def mcells (ms : List Mv) : List Value := ms.flatMap fun m => [.int .i64 m.x, .int .i64 m.y, .int .i64 m.t, .bool m.f]
theorem mcells_add (ms : List Mv) (m : Mv) : mcells (ms ++ [m]) = mcells ms ++ [.int .i64 m.x, .int .i64 m.y, .int .i64 m.t, .bool m.f] := by simp [mcells]
theorem mcells_length (ms : List Mv) : (mcells ms).length = ms.length * 4 := by
  induction ms with
  | nil => rfl
  | cons m ms ih =>
    have : mcells (m :: ms) = [.int .i64 m.x, .int .i64 m.y, .int .i64 m.t, .bool m.f] ++ mcells ms := rfl
    rw [this, List.length_append, ih, List.length_cons]
    simp
    omega
def mvs4 (W H : Nat) (f : Bool) (t x : Nat) : Nat → List Mv
  | 0 => []
  | n + 1 => mvs4 W H f t x n ++ if alB W H x n t = true then [⟨x, n, t, f⟩] else []
def mvs3 (W H : Nat) (f : Bool) (t : Nat) : Nat → List Mv
  | 0 => []
  | n + 1 => mvs3 W H f t n ++ mvs4 W H f t n H
def mvs2 (W H : Nat) (f : Bool) : Nat → List Mv
  | 0 => []
  | n + 1 => mvs2 W H f n ++ mvs3 W H f n W
def mvs1 (W H : Nat) : Nat → List Mv
  | 0 => []
  | n + 1 => mvs1 W H n ++ mvs2 W H (bo n) 4
theorem len4 (W H : Nat) (f : Bool) (t x : Nat) : ∀ n, (mvs4 W H f t x n).length ≤ n
  | 0 => Nat.le_refl _
  | n + 1 => by
    have := len4 W H f t x n
    simp only [mvs4, List.length_append]
    split <;> simp <;> omega
theorem len3 (W H : Nat) (hH : H ≤ 8) (f : Bool) (t : Nat) : ∀ n, (mvs3 W H f t n).length ≤ 8 * n
  | 0 => Nat.le_refl _
  | n + 1 => by
    have := len3 W H hH f t n
    have := len4 W H f t n H
    simp only [mvs3, List.length_append]
    omega
theorem len2 (W H : Nat) (hW : W ≤ 8) (hH : H ≤ 8) (f : Bool) : ∀ n, (mvs2 W H f n).length ≤ 64 * n
  | 0 => Nat.le_refl _
  | n + 1 => by
    have := len2 W H hW hH f n
    have := len3 W H hH f n W
    simp only [mvs2, List.length_append]
    omega
theorem len1 (W H : Nat) (hW : W ≤ 8) (hH : H ≤ 8) : ∀ n, (mvs1 W H n).length ≤ 256 * n
  | 0 => Nat.le_refl _
  | n + 1 => by
    have := len1 W H hW hH n
    have := len2 W H hW hH (bo n) 4
    simp only [mvs1, List.length_append]
    omega
theorem mem4 (W H : Nat) (f : Bool) (t x : Nat) (m : Mv) : ∀ n, m ∈ mvs4 W H f t x n ↔ ∃ y, y < n ∧ m = ⟨x, y, t, f⟩ ∧ alB W H x y t = true
  | 0 => by simp [mvs4]
  | n + 1 => by
    simp only [mvs4, List.mem_append, mem4 W H f t x m n]
    constructor
    · rintro (⟨y, h1, h2, h3⟩ | h)
      · exact ⟨y, by omega, h2, h3⟩
      · split at h
        · next ha => exact ⟨n, by omega, List.mem_singleton.1 h, ha⟩
        · cases h
    · rintro ⟨y, h1, h2, h3⟩
      by_cases e : y = n
      · subst e
        right
        rw [if_pos h3]
        exact List.mem_singleton.2 h2
      · exact .inl ⟨y, by omega, h2, h3⟩
theorem mem3 (W H : Nat) (f : Bool) (t : Nat) (m : Mv) : ∀ n, m ∈ mvs3 W H f t n ↔ ∃ x, x < n ∧ m ∈ mvs4 W H f t x H
  | 0 => by simp [mvs3]
  | n + 1 => by
    simp only [mvs3, List.mem_append, mem3 W H f t m n]
    constructor
    · rintro (⟨y, h1, h2⟩ | h)
      · exact ⟨y, by omega, h2⟩
      · exact ⟨n, by omega, h⟩
    · rintro ⟨y, h1, h2⟩
      by_cases e : y = n
      · subst e; exact .inr h2
      · exact .inl ⟨y, by omega, h2⟩
theorem mem2 (W H : Nat) (f : Bool) (m : Mv) : ∀ n, m ∈ mvs2 W H f n ↔ ∃ x, x < n ∧ m ∈ mvs3 W H f x W
  | 0 => by simp [mvs2]
  | n + 1 => by
    simp only [mvs2, List.mem_append, mem2 W H f m n]
    constructor
    · rintro (⟨y, h1, h2⟩ | h)
      · exact ⟨y, by omega, h2⟩
      · exact ⟨n, by omega, h⟩
    · rintro ⟨y, h1, h2⟩
      by_cases e : y = n
      · subst e; exact .inr h2
      · exact .inl ⟨y, by omega, h2⟩
theorem mem1 (W H : Nat) (m : Mv) : ∀ n, m ∈ mvs1 W H n ↔ ∃ x, x < n ∧ m ∈ mvs2 W H (bo x) 4
  | 0 => by simp [mvs1]
  | n + 1 => by
    simp only [mvs1, List.mem_append, mem1 W H m n]
    constructor
    · rintro (⟨y, h1, h2⟩ | h)
      · exact ⟨y, by omega, h2⟩
      · exact ⟨n, by omega, h⟩
    · rintro ⟨y, h1, h2⟩
      by_cases e : y = n
      · subst e; exact .inr h2
      · exact .inl ⟨y, by omega, h2⟩
theorem mem_moves {W H : Nat} (hs : sizeB W H = true) (m : Mv) : m ∈ mvs1 W H 2 ↔ Al W H m := by
  simp only [mem1, mem2, mem3, mem4]
  constructor
  · rintro ⟨q, hq, t, ht, x, hx, y, hy, rfl, ha⟩
    exact al_of hs ha
  · intro h
    have h1 := h.x
    have h2 := h.y
    have h3 := h.t
    have ha := h.al
    refine ⟨if m.f = true then 1 else 0, by split <;> omega, m.t.toNat, by omega, m.x.toNat, by omega, m.y.toNat, by omega, ?_, ?_⟩
    · obtain ⟨x, y, t, f⟩ := m
      simp only at h1 h2 h3
      have e1 : ((x.toNat : Nat) : Int) = x := by omega
      have e2 : ((y.toNat : Nat) : Int) = y := by omega
      have e3 : ((t.toNat : Nat) : Int) = t := by omega
      simp only [e1, e2, e3]
      cases f <;> rfl
    · have e1 : ((m.x.toNat : Nat) : Int) = m.x := by omega
      have e2 : ((m.y.toNat : Nat) : Int) = m.y := by omega
      have e3 : ((m.t.toNat : Nat) : Int) = m.t := by omega
      rw [e1, e2, e3]
      exact ha
section
variable {w w' : World} {base size n g o : Nat} {e : TypeId} {v : Value} {xs vs : List Value}
theorem own_to (h : w.ownsRow base e size v n xs) (hb : Below w.heap.size w w') : w'.ownsRow base e size v n xs :=
  h.kept (row := none) ⟨hb.os, hb.tape, hb.output, hb.size, fun k hk _ => hb.block k hk⟩ (by cases v.ownBlock <;> simp)
theorem own_put (hlt : ∀ k, v.ownBlock = some k → k < g) (h : w.ownsRow base e size v n xs) : (putL w g o vs).ownsRow base e size v n xs := by
  refine ⟨h.1, ?_⟩
  rcases h.2 with hn | ⟨g', cap, cur, rfl, hb, hgg, rest⟩
  · exact .inl hn
  · refine .inr ⟨g', cap, cur, rfl, hb, ?_, rest⟩
    rw [(putL_below (Nat.le_refl g) vs w o (Below.refl g w)).block g' (hlt g' rfl)]
    exact hgg
end
theorem Try.info_rmove : (Try.prog.info? 26).map (fun i => (i.zero, i.size, i.bytes)) = some (some (.agg #[.int .i64 0, .int .i64 0, .int .i64 0, .bool false]), 4, 32) := by kernel_rfl
/-- A list of moves of the function's own. -/
def OwnM (lo : Nat) (w : World) (v : Value) (ms : List Mv) : Prop := w.ownsRow lo 26 4 v ms.length (mcells ms)
section
variable {lo g o : Nat} {w w' : World} {v : Value} {ms : List Mv} {vs : List Value}
theorem OwnM.to (h : OwnM lo w v ms) (hb : Below w.heap.size w w') : OwnM lo w' v ms := own_to h hb
theorem OwnM.put (h : OwnM lo w v ms) (hlt : ∀ k, v.ownBlock = some k → k < g) : OwnM lo (putL w g o vs) v ms := own_put hlt h
theorem OwnM.lt (h : OwnM lo w v ms) : ∀ k, v.ownBlock = some k → lo ≤ k ∧ k < w.heap.size := World.ownsRow.lt h
end

set_option maxRecDepth 100000 in
set_option maxHeartbeats 1000000 in
theorem rMoves_got (Wn Hn : Nat) (hWn : 1 ≤ Wn ∧ Wn ≤ 8) (hHn : 1 ≤ Hn ∧ Hn ≤ 8) (w : World) :
    Calls Try.prog 41 #[.int .i64 (((Wn : Nat) : Int)), .int .i64 (((Hn : Nat) : Int))] w (Got w ((⟨fun v w' => OwnM w.heap.size w' v (mvs1 Wn Hn 2), fun v w w' h hb => own_to h hb⟩ : SP)).p) := by
  go_enter Try.func41, Try.ntmps41
  go_upto_region 2 with fail
  have HE : Hd (Env w []) := ⟨trivial⟩
  have HB : Hd (Below w.heap.size w w) := ⟨Below.refl _ _⟩
  refine wp_region_vd 2 [12, 13] [0, 1] [] 84 [.int .i64 0, .int .i64 0] [isV (.agg #[.bool false, .bool true]), isV (.int .i64 0)] (by rfl) alloc_Z ?_ ?_
  · intro qi qh qA aa wx hb hs hd
    match qi, qh, qA with
    | 0, _, _ => exact .inl ⟨rfl, ⟨_, op_bu2 rfl, rfl⟩⟩
    | 1, _, _ => exact .inl ⟨rfl, op_mv rfl rfl⟩
    | qi + 2, h, _ => omega
  · intro vs X1 hb hv hal hne
    have HL0 := Hd.mk (HE.out.lt)
    have HBW := HB
    replace HB := Hd.mk (bel_then HB.out hb)
    replace HE : Hd (Env X1 []) := ⟨HE.out.to hb⟩
    have HLS := HL0
    have e12 : vs 12 = .agg #[.bool false, .bool true] := hv 0 (by decide) rfl
    have e13 : vs 13 = .int .i64 0 := hv 1 (by decide) rfl
    simp only [putAll, List.foldl_cons, List.foldl_nil, Act.put, List.setIfInBounds_toArray, List.set_cons_succ, List.set_cons_zero, List.drop_succ_cons, List.drop_zero, e12, e13]
    clear hv hal hne hb HL0 HBW HLS e12 e13
    have HO : Hd (OwnM w.heap.size X1 (.slice none 0 0) []) := ⟨World.ownsRow_nil _ _ _ _⟩
    go_wp2_with fail
    go_loopw [5, 13] (fun s5 s13 wr => ∃ q : Nat, q ≤ 2 ∧ s13 = .int .i64 q ∧ OwnM w.heap.size wr s5 (mvs1 Wn Hn q) ∧ Below w.heap.size w wr) (fun s5 s13 _ => 2 - (intOf s13).toNat)
    case atStart => exact ⟨0, Nat.zero_le _, rfl, by have h := HO.out; simpa only [mvs1, List.append_nil, List.nil_append] using h, HB.out⟩
    case round =>
      obtain ⟨q, hql, rfl, ho, hb⟩ := hrel
      clear HB HE HO
      have HB := Hd.mk hb
      have HO := Hd.mk ho
      have HE : Hd (Env wr []) := ⟨trivial⟩
      clear ho hb
      by_cases hq : q < 2
      · skip
        go_upto_region 4 with fail
        try generalize Value.bool (decide (((q : Nat) : Int) < 2)) = zz4
        refine wp_region_vd 1 [15] [0] [] 84 [.int .i64 0, .int .i64 0] [isV (.bool (bo q))] (by rfl) alloc_Z ?_ ?_
        · intro qi qh qA aa wx hb hs hd
          match qi, qh, qA with
          | 0, _, _ => exact .inl ⟨rfl, ⟨_, op_ix2 hq rfl (hs 12 rfl) (hs 13 rfl), rfl⟩⟩
          | qi + 1, h, _ => omega
        · intro vs X1 hb hv hal hne
          have HL0 := Hd.mk (HE.out.lt)
          have HBW := HB
          replace HB := Hd.mk (bel_then HB.out hb)
          replace HE : Hd (Env X1 []) := ⟨HE.out.to hb⟩
          have HLS := HL0
          have HOL := Hd.mk HO.out.lt
          replace HO := Hd.mk (HO.out.to hb)
          have e15 : vs 15 = .bool (bo q) := hv 0 (by decide) rfl
          simp only [putAll, List.foldl_cons, List.foldl_nil, Act.put, List.setIfInBounds_toArray, List.set_cons_succ, List.set_cons_zero, List.drop_succ_cons, List.drop_zero, e15]
          clear hv hal hne hb HL0 HBW HLS e15 HOL
          go_upto_region 5 with fail
          refine wp_region_vd 1 [16] [0] [] 84 [.int .i64 0, .int .i64 0] [isV (.int .i64 0)] (by rfl) alloc_Z ?_ ?_
          · intro qi qh qA aa wx hb hs hd
            match qi, qh, qA with
            | 0, _, _ => exact .inl ⟨rfl, op_mv rfl rfl⟩
            | qi + 1, h, _ => omega
          · intro vs X2 hb hv hal hne
            have HL0 := Hd.mk (HE.out.lt)
            have HBW := HB
            replace HB := Hd.mk (bel_then HB.out hb)
            replace HE : Hd (Env X2 []) := ⟨HE.out.to hb⟩
            have HLS := HL0
            have HOL := Hd.mk HO.out.lt
            replace HO := Hd.mk (HO.out.to hb)
            have e16 : vs 16 = .int .i64 0 := hv 0 (by decide) rfl
            simp only [putAll, List.foldl_cons, List.foldl_nil, Act.put, List.setIfInBounds_toArray, List.set_cons_succ, List.set_cons_zero, List.drop_succ_cons, List.drop_zero, e16]
            clear hv hal hne hb HL0 HBW HLS e16 HOL
            go_wp2_with fail
            go_loopw [5, 16] (fun s5 s16 wr => ∃ t : Nat, t ≤ 4 ∧ s16 = .int .i64 t ∧ OwnM w.heap.size wr s5 (mvs1 Wn Hn q ++ mvs2 Wn Hn (bo q) t) ∧ Below w.heap.size w wr) (fun s5 s16 _ => 4 - (intOf s16).toNat)
            case atStart => exact ⟨0, Nat.zero_le _, rfl, by have h := HO.out; simpa only [mvs2, List.append_nil, List.nil_append] using h, HB.out⟩
            case round =>
              obtain ⟨t, htl, rfl, ho, hb⟩ := hrel
              clear HB HE HO
              have HB := Hd.mk hb
              have HO := Hd.mk ho
              have HE : Hd (Env wr []) := ⟨trivial⟩
              clear ho hb
              by_cases ht : t < 4
              · skip
                go_upto_region 7 with fail
                try generalize Value.bool (decide (((t : Nat) : Int) < 4)) = zz7
                refine wp_region_vd 1 [18] [0] [] 84 [.int .i64 0, .int .i64 0] [isV (.int .i64 (((t : Nat) : Int)))] (by rfl) alloc_Z ?_ ?_
                · intro qi qh qA aa wx hb hs hd
                  match qi, qh, qA with
                  | 0, _, _ => exact .inl ⟨rfl, op_mv rfl (hs 16 rfl)⟩
                  | qi + 1, h, _ => omega
                · intro vs X1 hb hv hal hne
                  have HL0 := Hd.mk (HE.out.lt)
                  have HBW := HB
                  replace HB := Hd.mk (bel_then HB.out hb)
                  replace HE : Hd (Env X1 []) := ⟨HE.out.to hb⟩
                  have HLS := HL0
                  have HOL := Hd.mk HO.out.lt
                  replace HO := Hd.mk (HO.out.to hb)
                  have e18 : vs 18 = .int .i64 (((t : Nat) : Int)) := hv 0 (by decide) rfl
                  simp only [putAll, List.foldl_cons, List.foldl_nil, Act.put, List.setIfInBounds_toArray, List.set_cons_succ, List.set_cons_zero, List.drop_succ_cons, List.drop_zero, e18]
                  clear hv hal hne hb HL0 HBW HLS e18 HOL
                  go_upto_region 8 with fail
                  refine wp_region_vd 2 [19, 20] [0, 1] [] 84 [.int .i64 0, .int .i64 0] [isV (.int .i64 (((Wn : Nat) : Int))), isV (.int .i64 0)] (by rfl) alloc_Z ?_ ?_
                  · intro qi qh qA aa wx hb hs hd
                    match qi, qh, qA with
                    | 0, _, _ => exact .inl ⟨rfl, op_mv rfl (hs 0 rfl)⟩
                    | 1, _, _ => exact .inl ⟨rfl, op_mv rfl rfl⟩
                    | qi + 2, h, _ => omega
                  · intro vs X2 hb hv hal hne
                    have HL0 := Hd.mk (HE.out.lt)
                    have HBW := HB
                    replace HB := Hd.mk (bel_then HB.out hb)
                    replace HE : Hd (Env X2 []) := ⟨HE.out.to hb⟩
                    have HLS := HL0
                    have HOL := Hd.mk HO.out.lt
                    replace HO := Hd.mk (HO.out.to hb)
                    have e19 : vs 19 = .int .i64 (((Wn : Nat) : Int)) := hv 0 (by decide) rfl
                    have e20 : vs 20 = .int .i64 0 := hv 1 (by decide) rfl
                    simp only [putAll, List.foldl_cons, List.foldl_nil, Act.put, List.setIfInBounds_toArray, List.set_cons_succ, List.set_cons_zero, List.drop_succ_cons, List.drop_zero, e19, e20]
                    clear hv hal hne hb HL0 HBW HLS e19 e20 HOL
                    go_wp2_with fail
                    go_loopw [5, 20] (fun s5 s20 wr => ∃ i : Nat, i ≤ Wn ∧ s20 = .int .i64 i ∧ OwnM w.heap.size wr s5 (mvs1 Wn Hn q ++ mvs2 Wn Hn (bo q) t ++ mvs3 Wn Hn (bo q) t i) ∧ Below w.heap.size w wr) (fun s5 s20 _ => Wn - (intOf s20).toNat)
                    case atStart => exact ⟨0, Nat.zero_le _, rfl, by have h := HO.out; simpa only [mvs3, List.append_nil, List.nil_append] using h, HB.out⟩
                    case round =>
                      obtain ⟨i, hil, rfl, ho, hb⟩ := hrel
                      clear HB HE HO
                      have HB := Hd.mk hb
                      have HO := Hd.mk ho
                      have HE : Hd (Env wr []) := ⟨trivial⟩
                      clear ho hb
                      by_cases hi : i < Wn
                      · skip
                        go_upto_region 10 with fail
                        try generalize Value.bool (decide (((i : Nat) : Int) < (Wn : Int))) = zz10
                        refine wp_region_vd 1 [22] [0] [] 84 [.int .i64 0, .int .i64 0] [isV (.int .i64 (((i : Nat) : Int)))] (by rfl) alloc_Z ?_ ?_
                        · intro qi qh qA aa wx hb hs hd
                          match qi, qh, qA with
                          | 0, _, _ => exact .inl ⟨rfl, op_mv rfl (hs 20 rfl)⟩
                          | qi + 1, h, _ => omega
                        · intro vs X1 hb hv hal hne
                          have HL0 := Hd.mk (HE.out.lt)
                          have HBW := HB
                          replace HB := Hd.mk (bel_then HB.out hb)
                          replace HE : Hd (Env X1 []) := ⟨HE.out.to hb⟩
                          have HLS := HL0
                          have HOL := Hd.mk HO.out.lt
                          replace HO := Hd.mk (HO.out.to hb)
                          have e22 : vs 22 = .int .i64 (((i : Nat) : Int)) := hv 0 (by decide) rfl
                          simp only [putAll, List.foldl_cons, List.foldl_nil, Act.put, List.setIfInBounds_toArray, List.set_cons_succ, List.set_cons_zero, List.drop_succ_cons, List.drop_zero, e22]
                          clear hv hal hne hb HL0 HBW HLS e22 HOL
                          go_upto_region 11 with fail
                          refine wp_region_vd 2 [23, 24] [0, 1] [] 84 [.int .i64 0, .int .i64 0] [isV (.int .i64 (((Hn : Nat) : Int))), isV (.int .i64 0)] (by rfl) alloc_Z ?_ ?_
                          · intro qi qh qA aa wx hb hs hd
                            match qi, qh, qA with
                            | 0, _, _ => exact .inl ⟨rfl, op_mv rfl (hs 1 rfl)⟩
                            | 1, _, _ => exact .inl ⟨rfl, op_mv rfl rfl⟩
                            | qi + 2, h, _ => omega
                          · intro vs X2 hb hv hal hne
                            have HL0 := Hd.mk (HE.out.lt)
                            have HBW := HB
                            replace HB := Hd.mk (bel_then HB.out hb)
                            replace HE : Hd (Env X2 []) := ⟨HE.out.to hb⟩
                            have HLS := HL0
                            have HOL := Hd.mk HO.out.lt
                            replace HO := Hd.mk (HO.out.to hb)
                            have e23 : vs 23 = .int .i64 (((Hn : Nat) : Int)) := hv 0 (by decide) rfl
                            have e24 : vs 24 = .int .i64 0 := hv 1 (by decide) rfl
                            simp only [putAll, List.foldl_cons, List.foldl_nil, Act.put, List.setIfInBounds_toArray, List.set_cons_succ, List.set_cons_zero, List.drop_succ_cons, List.drop_zero, e23, e24]
                            clear hv hal hne hb HL0 HBW HLS e23 e24 HOL
                            go_wp2_with fail
                            go_loopw [5, 24] (fun s5 s24 wr => ∃ j : Nat, j ≤ Hn ∧ s24 = .int .i64 j ∧ OwnM w.heap.size wr s5 (mvs1 Wn Hn q ++ mvs2 Wn Hn (bo q) t ++ mvs3 Wn Hn (bo q) t i ++ mvs4 Wn Hn (bo q) t i j) ∧ Below w.heap.size w wr) (fun s5 s24 _ => Hn - (intOf s24).toNat)
                            case atStart => exact ⟨0, Nat.zero_le _, rfl, by have h := HO.out; simpa only [mvs4, List.append_nil, List.nil_append] using h, HB.out⟩
                            case round =>
                              obtain ⟨j, hjl, rfl, ho, hb⟩ := hrel
                              clear HB HE HO
                              have HB := Hd.mk hb
                              have HO := Hd.mk ho
                              have HE : Hd (Env wr []) := ⟨trivial⟩
                              clear ho hb
                              by_cases hj : j < Hn
                              · skip
                                go_upto_region 13 with fail
                                try generalize Value.bool (decide (((j : Nat) : Int) < (Hn : Int))) = zz13
                                refine wp_region_vd 1 [26] [0] [] 84 [.int .i64 0, .int .i64 0] [isV (.int .i64 (((j : Nat) : Int)))] (by rfl) alloc_Z ?_ ?_
                                · intro qi qh qA aa wx hb hs hd
                                  match qi, qh, qA with
                                  | 0, _, _ => exact .inl ⟨rfl, op_mv rfl (hs 24 rfl)⟩
                                  | qi + 1, h, _ => omega
                                · intro vs X1 hb hv hal hne
                                  have HL0 := Hd.mk (HE.out.lt)
                                  have HBW := HB
                                  replace HB := Hd.mk (bel_then HB.out hb)
                                  replace HE : Hd (Env X1 []) := ⟨HE.out.to hb⟩
                                  have HLS := HL0
                                  have HOL := Hd.mk HO.out.lt
                                  replace HO := Hd.mk (HO.out.to hb)
                                  have e26 : vs 26 = .int .i64 (((j : Nat) : Int)) := hv 0 (by decide) rfl
                                  simp only [putAll, List.foldl_cons, List.foldl_nil, Act.put, List.setIfInBounds_toArray, List.set_cons_succ, List.set_cons_zero, List.drop_succ_cons, List.drop_zero, e26]
                                  clear hv hal hne hb HL0 HBW HLS e26 HOL
                                  go_upto_region 14 with fail
                                  refine wp_region_vd 6 [27, 28, 29, 30, 31, 11] [0, 1, 2, 3, 4] [5] 26 [.int .i64 0, .int .i64 0, .int .i64 0, .bool false] [isV (.int .i64 (((i : Nat) : Int))), isV (.int .i64 (((j : Nat) : Int))), isV (.int .i64 (((t : Nat) : Int))), isV (.bool (bo q)), isV (.agg #[.int .i64 (((i : Nat) : Int)), .int .i64 (((j : Nat) : Int)), .int .i64 (((t : Nat) : Int)), .bool (bo q)]), SP.any] (by rfl) alloc_N ?_ ?_
                                  · intro qi qh qA aa wx hb hs hd
                                    match qi, qh, qA with
                                    | 0, _, _ => exact .inl ⟨rfl, op_mv rfl (hs 9 rfl)⟩
                                    | 1, _, _ => exact .inl ⟨rfl, op_mv rfl (hs 10 rfl)⟩
                                    | 2, _, _ => exact .inl ⟨rfl, op_mv rfl (hs 8 rfl)⟩
                                    | 3, _, _ => exact .inl ⟨rfl, op_mv rfl (hs 7 rfl)⟩
                                    | 4, _, _ => exact .inl ⟨rfl, ⟨_, op_buN rfl (hd 0 rfl) (hd 1 rfl) (hd 2 rfl) (hd 3 rfl), rfl⟩⟩
                                    | 5, _, h => cases h
                                    | qi + 6, h, _ => omega
                                  · intro vs X2 hb hv hal hne
                                    have HL0 := Hd.mk (HE.out.lt)
                                    have HBW := HB
                                    replace HB := Hd.mk (bel_then HB.out hb)
                                    replace HE : Hd (Env X2 []) := ⟨HE.out.to hb⟩
                                    have HLS := HL0
                                    have HOL := Hd.mk HO.out.lt
                                    replace HO := Hd.mk (HO.out.to hb)
                                    have e31 : vs 31 = .agg #[.int .i64 (((i : Nat) : Int)), .int .i64 (((j : Nat) : Int)), .int .i64 (((t : Nat) : Int)), .bool (bo q)] := hv 4 (by decide) rfl
                                    obtain ⟨g11, e11, l11, b11⟩ : ∃ g, vs 11 = .pointer (some ⟨g, 0, none⟩) ∧ _ := hal 5 rfl
                                    replace HE : Hd (Env X2 [⟨g11, 26, [.int .i64 0, .int .i64 0, .int .i64 0, .bool false]⟩]) := ⟨Env.addne (e := ⟨g11, 26, [.int .i64 0, .int .i64 0, .int .i64 0, .bool false]⟩) HE.out b11 (fun e' he => Nat.ne_of_lt (Nat.lt_of_lt_of_le (HL0.out e' he) l11))⟩
                                    have HOG11 : Hd (∀ k, u5.ownBlock = some k → k < g11) := ⟨fun k hk => Nat.lt_of_lt_of_le (HOL.out k hk).2 l11⟩
                                    have G11 : Hd (w.heap.size ≤ g11) := ⟨Nat.le_trans HBW.out.size l11⟩
                                    simp only [putAll, List.foldl_cons, List.foldl_nil, Act.put, List.setIfInBounds_toArray, List.set_cons_succ, List.set_cons_zero, List.drop_succ_cons, List.drop_zero, e31, e11]
                                    generalize vs 27 = s27
                                    generalize vs 28 = s28
                                    generalize vs 29 = s29
                                    generalize vs 30 = s30
                                    clear hv hal hne hb HL0 HBW HLS e31 e11 l11 b11 HOL
                                    refine wpList_st rfl rfl rfl rfl rfl (sto_N (HE.out.get 0 rfl)) ?_
                                    have HE' : Env (putL X2 g11 0 [.int .i64 (((i : Nat) : Int)), .int .i64 (((j : Nat) : Int)), .int .i64 (((t : Nat) : Int)), .bool (bo q)]) [⟨g11, 26, [.int .i64 (((i : Nat) : Int)), .int .i64 (((j : Nat) : Int)), .int .i64 (((t : Nat) : Int)), .bool (bo q)]⟩] := HE.out.putF 0 rfl rfl
                                    have HB' := putL_below (show w.heap.size ≤ g11 from G11.out) [.int .i64 (((i : Nat) : Int)), .int .i64 (((j : Nat) : Int)), .int .i64 (((t : Nat) : Int)), .bool (bo q)] _ 0 HB.out
                                    replace HO := Hd.mk (HO.out.put (vs := [.int .i64 (((i : Nat) : Int)), .int .i64 (((j : Nat) : Int)), .int .i64 (((t : Nat) : Int)), .bool (bo q)]) (o := 0) HOG11.out)
                                    generalize putL X2 g11 0 [.int .i64 (((i : Nat) : Int)), .int .i64 (((j : Nat) : Int)), .int .i64 (((t : Nat) : Int)), .bool (bo q)] = X3 at *
                                    replace HE := Hd.mk HE'
                                    replace HB := Hd.mk HB'
                                    clear HE' HB'
                                    by_cases ha : alB Wn Hn i j t = true
                                    · skip
                                      go_upto_region 15 with fail
                                      refine wp_region_vd 4 [32, 33, 34, 35] [0, 1] [] 84 [.int .i64 0, .int .i64 0] [isV (.int .i64 (((Wn : Nat) : Int))), isV (.int .i64 (((Hn : Nat) : Int))), isV (.agg #[.int .i64 (((i : Nat) : Int)), .int .i64 (((j : Nat) : Int)), .int .i64 (((t : Nat) : Int)), .bool (bo q)]), isV (.bool true)] (by rfl) alloc_Z ?_ ?_
                                      · intro qi qh qA aa wx hb hs hd
                                        match qi, qh, qA with
                                        | 0, _, _ => exact .inl ⟨rfl, op_mv rfl (hs 0 rfl)⟩
                                        | 1, _, _ => exact .inl ⟨rfl, op_mv rfl (hs 1 rfl)⟩
                                        | 2, _, _ => exact .inl ⟨rfl, op_ldN rfl rfl (hs 11 rfl) ((HE.out.to hb).get 0 rfl)⟩
                                        | 3, _, _ => exact .inl ⟨rfl, wp_b (bool_eq ha) (op_call3 rfl rfl Try.call19 (by rw [(show aa.eval (.tmp 32) = .int .i64 (((Wn : Nat) : Int)) from (hd 0 rfl)), (show aa.eval (.tmp 33) = .int .i64 (((Hn : Nat) : Int)) from (hd 1 rfl)), (show aa.eval (.tmp 34) = .agg #[.int .i64 (((i : Nat) : Int)), .int .i64 (((j : Nat) : Int)), .int .i64 (((t : Nat) : Int)), .bool (bo q)] from (hd 2 rfl))]; exact Fits_got (((Wn : Nat) : Int)) (((Hn : Nat) : Int)) (((i : Nat) : Int)) (((j : Nat) : Int)) (((t : Nat) : Int)) (bo q) _))⟩
                                        | qi + 4, h, _ => omega
                                      · intro vs X4 hb hv hal hne
                                        have HL0 := Hd.mk (HE.out.lt)
                                        have HBW := HB
                                        replace HB := Hd.mk (bel_then HB.out hb)
                                        replace HE : Hd (Env X4 [⟨g11, 26, [.int .i64 (((i : Nat) : Int)), .int .i64 (((j : Nat) : Int)), .int .i64 (((t : Nat) : Int)), .bool (bo q)]⟩]) := ⟨HE.out.to hb⟩
                                        have HLS := HL0
                                        have HOL := Hd.mk HO.out.lt
                                        replace HO := Hd.mk (HO.out.to hb)
                                        have e35 : vs 35 = .bool true := hv 3 (by decide) rfl
                                        simp only [putAll, List.foldl_cons, List.foldl_nil, Act.put, List.setIfInBounds_toArray, List.set_cons_succ, List.set_cons_zero, List.drop_succ_cons, List.drop_zero, e35]
                                        generalize vs 32 = s32
                                        generalize vs 33 = s33
                                        generalize vs 34 = s34
                                        clear hv hal hne hb HL0 HBW HLS e35 HOL
                                        have k26a := HE.out.cell 0 0 rfl rfl
                                        have k26b := HE.out.cell 0 1 rfl rfl
                                        have k26c := HE.out.cell 0 2 rfl rfl
                                        have k26d := HE.out.cell 0 3 rfl rfl
                                        have HLN : (mvs1 Wn Hn q ++ mvs2 Wn Hn (bo q) t ++ mvs3 Wn Hn (bo q) t i ++ mvs4 Wn Hn (bo q) t i j).length ≤ 1024 := by
                                          have l1 := len1 Wn Hn hWn.2 hHn.2 q
                                          have l2 := len2 Wn Hn hWn.2 hHn.2 (bo q) t
                                          have l3 := len3 Wn Hn hHn.2 (bo q) t i
                                          have l4 := len4 Wn Hn (bo q) t i j
                                          simp only [List.length_append]
                                          omega
                                        have HXS := Nat.le_trans HB.out.size (Nat.le_refl _)
                                        obtain ⟨i0, hi0, hz0, hz1, hz2⟩ := info_parts Try.info_rmove
                                        generalize hms : mvs1 Wn Hn q ++ mvs2 Wn Hn (bo q) t ++ mvs3 Wn Hn (bo q) t i ++ mvs4 Wn Hn (bo q) t i j = ms at HO HLN
                                        have HMS := Hd.mk hms
                                        clear hms
                                        go_wp2_with (first | (at_builtin; refine wpList_append_own _ rfl (.tmp 36) (.tmp 38) 51 rfl w.heap.size 26 i0 (.agg #[.int .i64 0, .int .i64 0, .int .i64 0, .bool false]) 4 32 Try.underlying51 hi0 hz0 hz1 hz2 rfl (by decide) u5 ms.length (mcells ms) rfl (HO.out.alloc _) ⟨X4.heap.size, 0, none⟩ 1 1 [.int .i64 ((i : Nat) : Int), .int .i64 ((j : Nat) : Int), .int .i64 ((t : Nat) : Int), .bool (bo q)] rfl rfl ?c1 ?c2 ?c3 ?c4 ?c5 ?_) | fail)
                                        case c1 =>
                                          intro z u hz
                                          rcases z with _ | _ | _ | _ | z <;> simp at hz <;> subst hz <;> simp [Addr.add]
                                        case c2 =>
                                          intro u hu
                                          simp at hu
                                          rcases hu with rfl | rfl | rfl | rfl <;> rfl
                                        case c3 => unfold maxLen; omega
                                        case c4 => omega
                                        case c5 => simp; omega
                                        intro v1 w1 hown1 hg1 _
                                        have HB1 := (below_alloc HB.out _).grown hg1 (by simp; omega) (fun z hz => (HO.out.lt z hz).1)
                                        have HO1 : OwnM w.heap.size w1 v1 (mvs1 Wn Hn q ++ mvs2 Wn Hn (bo q) t ++ mvs3 Wn Hn (bo q) t i ++ mvs4 Wn Hn (bo q) t i (j + 1)) := by
                                          rw [show mvs4 Wn Hn (bo q) t i (j + 1) = mvs4 Wn Hn (bo q) t i j ++ [⟨i, j, t, bo q⟩] from by rw [mvs4, if_pos ha], ← List.append_assoc, HMS.out]
                                          unfold OwnM
                                          rw [mcells_add, List.length_append]
                                          exact hown1
                                        replace HB := Hd.mk HB1
                                        replace HO := Hd.mk HO1
                                        clear HB1 HO1 hown1 hg1 HE
                                        go_wp2_with fail
                                        go_roundw
                                        case rel => exact ⟨j + 1, by omega, by go_num, HO.out, HB.out⟩
                                        case measure => simp [intOf]; omega
                                    · have ha' : alB Wn Hn i j t = false := by simpa using ha
                                      go_upto_region 15 with fail
                                      refine wp_region_vd 4 [32, 33, 34, 35] [0, 1] [] 84 [.int .i64 0, .int .i64 0] [isV (.int .i64 (((Wn : Nat) : Int))), isV (.int .i64 (((Hn : Nat) : Int))), isV (.agg #[.int .i64 (((i : Nat) : Int)), .int .i64 (((j : Nat) : Int)), .int .i64 (((t : Nat) : Int)), .bool (bo q)]), isV (.bool false)] (by rfl) alloc_Z ?_ ?_
                                      · intro qi qh qA aa wx hb hs hd
                                        match qi, qh, qA with
                                        | 0, _, _ => exact .inl ⟨rfl, op_mv rfl (hs 0 rfl)⟩
                                        | 1, _, _ => exact .inl ⟨rfl, op_mv rfl (hs 1 rfl)⟩
                                        | 2, _, _ => exact .inl ⟨rfl, op_ldN rfl rfl (hs 11 rfl) ((HE.out.to hb).get 0 rfl)⟩
                                        | 3, _, _ => exact .inl ⟨rfl, wp_b (bool_eq ha') (op_call3 rfl rfl Try.call19 (by rw [(show aa.eval (.tmp 32) = .int .i64 (((Wn : Nat) : Int)) from (hd 0 rfl)), (show aa.eval (.tmp 33) = .int .i64 (((Hn : Nat) : Int)) from (hd 1 rfl)), (show aa.eval (.tmp 34) = .agg #[.int .i64 (((i : Nat) : Int)), .int .i64 (((j : Nat) : Int)), .int .i64 (((t : Nat) : Int)), .bool (bo q)] from (hd 2 rfl))]; exact Fits_got (((Wn : Nat) : Int)) (((Hn : Nat) : Int)) (((i : Nat) : Int)) (((j : Nat) : Int)) (((t : Nat) : Int)) (bo q) _))⟩
                                        | qi + 4, h, _ => omega
                                      · intro vs X4 hb hv hal hne
                                        have HL0 := Hd.mk (HE.out.lt)
                                        have HBW := HB
                                        replace HB := Hd.mk (bel_then HB.out hb)
                                        replace HE : Hd (Env X4 [⟨g11, 26, [.int .i64 (((i : Nat) : Int)), .int .i64 (((j : Nat) : Int)), .int .i64 (((t : Nat) : Int)), .bool (bo q)]⟩]) := ⟨HE.out.to hb⟩
                                        have HLS := HL0
                                        have HOL := Hd.mk HO.out.lt
                                        replace HO := Hd.mk (HO.out.to hb)
                                        have e35 : vs 35 = .bool false := hv 3 (by decide) rfl
                                        simp only [putAll, List.foldl_cons, List.foldl_nil, Act.put, List.setIfInBounds_toArray, List.set_cons_succ, List.set_cons_zero, List.drop_succ_cons, List.drop_zero, e35]
                                        generalize vs 32 = s32
                                        generalize vs 33 = s33
                                        generalize vs 34 = s34
                                        clear hv hal hne hb HL0 HBW HLS e35 HOL
                                        have HO1 : OwnM w.heap.size X4 u5 (mvs1 Wn Hn q ++ mvs2 Wn Hn (bo q) t ++ mvs3 Wn Hn (bo q) t i ++ mvs4 Wn Hn (bo q) t i (j + 1)) := by
                                          rw [show mvs4 Wn Hn (bo q) t i (j + 1) = mvs4 Wn Hn (bo q) t i j from by rw [mvs4, if_neg ha, List.append_nil]]
                                          exact HO.out
                                        replace HO := Hd.mk HO1
                                        clear HO1
                                        go_wp2_with fail
                                        go_roundw
                                        case rel => exact ⟨j + 1, by omega, by go_num, HO.out, HB.out⟩
                                        case measure => simp [intOf]; omega
                              · have e1 : j = Hn := by omega
                                have HO1 : OwnM w.heap.size wr u5 (mvs1 Wn Hn q ++ mvs2 Wn Hn (bo q) t ++ mvs3 Wn Hn (bo q) t (i + 1)) := by
                                  have h := HO.out
                                  rw [e1] at h
                                  rw [mvs3, ← List.append_assoc]
                                  exact h
                                replace HO := Hd.mk HO1
                                clear HO1
                                go_wp2_with fail
                                go_roundw
                                case rel => exact ⟨i + 1, by omega, by go_num, HO.out, HB.out⟩
                                case measure => simp [intOf]; omega
                      · have e1 : i = Wn := by omega
                        have HO1 : OwnM w.heap.size wr u5 (mvs1 Wn Hn q ++ mvs2 Wn Hn (bo q) (t + 1)) := by
                          have h := HO.out
                          rw [e1] at h
                          rw [mvs2, ← List.append_assoc]
                          exact h
                        replace HO := Hd.mk HO1
                        clear HO1
                        go_wp2_with fail
                        go_roundw
                        case rel => exact ⟨t + 1, by omega, by go_num, HO.out, HB.out⟩
                        case measure => simp [intOf]; omega
              · have e1 : t = 4 := by omega
                have HO1 : OwnM w.heap.size wr u5 (mvs1 Wn Hn (q + 1)) := by
                  have h := HO.out
                  rw [e1] at h
                  rw [mvs1]
                  exact h
                replace HO := Hd.mk HO1
                clear HO1
                go_wp2_with fail
                go_roundw
                case rel => exact ⟨q + 1, by omega, by go_num, HO.out, HB.out⟩
                case measure => simp [intOf]; omega
      · have e1 : q = 2 := by omega
        go_wp2_with fail
        go_ret
        exact ⟨u5, rfl, HB.out, by rw [← e1]; exact HO.out⟩
end Go.Proofs.Ytddbmckbankmeaa
