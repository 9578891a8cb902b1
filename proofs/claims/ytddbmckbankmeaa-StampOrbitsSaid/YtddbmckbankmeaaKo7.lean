/- Part 7 of the texts behind this claim. -/
import Derived.Deep.RegionWith
import Derived.BigRegion
import Derived.Test.YtddbmckbankmeaaKo6
set_option linter.unusedVariables false
set_option linter.unusedSimpArgs false
namespace Go.Proofs.Ytddbmckbankmeaa
open Go.RowKit
theorem RI.put {w : World} {A : Option Addr} {xs : List Int} {g : Nat} (h : RI w A xs) (hne : ∀ ad, A = some ad → ad.block ≠ g) : ∀ (vs : List Value) (o : Nat), RI (putL w g o vs) A xs := by
  have key : ∀ (vs : List Value) (w : World) (o : Nat) (ad : Addr), ad.block ≠ g → ∀ j, (putL w g o vs).cell? (ad.add j) = w.cell? (ad.add j) := by
    intro vs
    induction vs with
    | nil => intro w o ad hn j; rfl
    | cons v vs ih =>
      intro w o ad hn j
      show (putL (w.setCell ⟨g, o, none⟩ v) g (o + 1) vs).cell? (ad.add j) = _
      rw [ih _ _ _ hn]
      exact World.cell?_setCell_far _ _ _ _ (by rw [block_add]; first | exact hn | exact Ne.symm hn)
  intro vs o hn
  obtain ⟨ad, e, hc⟩ := h hn
  exact ⟨ad, e, fun j hj => (key vs w o ad (hne ad e) j).trans (hc j hj)⟩
def isCl (lo : Nat) (xs : List Int) : SP := ⟨fun v w => ∃ A k, v = .slice A xs.length k ∧ RI w A xs ∧ (∀ ad, A = some ad → lo ≤ ad.block) ∧ xs.length ≤ k ∧ k ≤ 9223372036854775807, fun v w w' ⟨A, k, h1, h2, h3⟩ hb => ⟨A, k, h1, h2.to hb, h3⟩⟩
def isSt (lo : Nat) (W H : Int) (xs : List Int) : SP := ⟨fun v w => ∃ A k, v = .agg #[.int .i64 W, .int .i64 H, .slice A xs.length k] ∧ RI w A xs ∧ (∀ ad, A = some ad → lo ≤ ad.block) ∧ xs.length ≤ k ∧ k ≤ 9223372036854775807, fun v w w' ⟨A, k, h1, h2, h3⟩ hb => ⟨A, k, h1, h2.to hb, h3⟩⟩
theorem got_cl {P : Program} {f lo lo' : Nat} {vs : Array Value} {w : World} {xs : List Int} (h : lo ≤ lo') (hc : Calls P f vs w (Got w (isCl lo' xs).p)) : Calls P f vs w (Got w (isCl lo xs).p) :=
  hc.mono fun e w' ⟨v, h1, h2, A, k, h3, h4, h5, h6⟩ => ⟨v, h1, h2, A, k, h3, h4, fun ad e => Nat.le_trans h (h5 ad e), h6⟩
theorem got_st {P : Program} {f lo lo' : Nat} {vs : Array Value} {w : World} {W H : Int} {xs : List Int} (h : lo ≤ lo') (hc : Calls P f vs w (Got w (isSt lo' W H xs).p)) : Calls P f vs w (Got w (isSt lo W H xs).p) :=
  hc.mono fun e w' ⟨v, h1, h2, A, k, h3, h4, h5, h6⟩ => ⟨v, h1, h2, A, k, h3, h4, fun ad e => Nat.le_trans h (h5 ad e), h6⟩
section
variable {Q : Exit → Act → World → Prop} {o : Oper} {a : Act} {w : World} {x y z : Operand} {b1 b2 m : Int} {lo : Nat} {xs : List Int} {A : Option Addr} {n k : Nat}
theorem op_buTC (ho : o.op = .build 27 #[(0, x), (1, y), (2, z)]) (h0 : a.eval x = .int .i64 b1) (h1 : a.eval y = .int .i64 b2) (h2 : (isCl lo xs).p (a.eval z) w) : ∃ v, (∀ w, (execOp a.eval o).run Try.prog w = .ok (.value v) w) ∧ (isSt lo b1 b2 xs).p v w := by
  obtain ⟨A, k, e, h3⟩ := h2
  exact ⟨_, op_buT ho h0 h1 e, A, k, rfl, h3⟩
theorem op_cut {p : Nat} (h0 : p ≤ n) (hnk : n ≤ k) (hA : A = none → k = 0) (ho : o.op = .slice 22 x none (some y) none) (hx : a.eval x = .slice A n k) (hy : a.eval y = .int .i64 (p : Int)) (w : World) : (execOp a.eval o).run Try.prog w = .ok (.value (.slice A p k)) w := by
  generalize a.eval = ev at hx hy ⊢
  unfold execOp
  simp only [ho, Option.map_some, Option.map_none, hx, hy]
  rcases A with _ | ad
  · have hk := hA rfl
    subst hk
    have hn : n = 0 := by omega
    have hp : p = 0 := by omega
    subst hn hp
    simp [go_sem]
  have hpk : (p : Int) ≤ (k : Int) := by omega
  simp [go_sem, hpk]
end
def badc (x : Int) : Bool := decide (x < 0) || decide (8 ≤ x)
theorem bad_any (x : Int) (w : World) : Calls Try.prog 55 #[.int .i64 x] w fun e w' => e = .returned (.bool (badc x)) ∧ w = w' := by
  unfold badc
  by_cases hx : x < 0
  · go_enter Try.func55, Try.ntmps55
    go_wp2
    go_ret
    exact ⟨by simp [hx], rfl⟩
  go_enter Try.func55, Try.ntmps55
  go_wp2
  go_ret
  exact ⟨ret_bool (by simp [hx]; omega), rfl⟩
theorem no_more {l : List Int} {k : Nat} (h : ∀ j : Nat, j < k → badc (l.getD j 0) = false) (h2 : badc (l.getD k 0) = false) : ∀ j : Nat, j < k + 1 → badc (l.getD j 0) = false := by
  intro j hj
  by_cases hk : j < k
  · exact h j hk
  have : j = k := by omega
  subst this
  exact h2
theorem idx_any (A : Option Addr) (c : Nat) (l : List Int) (w : World) (hr : RI w A l) (hc : l.length ≤ 140737488351232) :
    Calls Try.prog 81 #[.slice A l.length c, .func (.func 55) #[] #[]] w fun e w' => ∃ i : Int, e = .returned (.int .i64 i) ∧ decide (0 ≤ i) = l.any badc ∧ w = w' := by
  have HR := Hd.mk hr
  clear hr
  go_enter Try.func81, Try.ntmps81
  go_wp2
  go_loop [5, 8] (fun s i => ∃ k : Nat, k ≤ l.length ∧ i = .int .i64 k ∧ (∀ j : Nat, j < k → badc (l.getD j 0) = false)) (fun _ i => l.length - (intOf i).toNat)
  case atStart => exact ⟨0, Nat.zero_le _, rfl, fun j hj => absurd hj (by omega)⟩
  case round =>
    obtain ⟨k, hk, rfl, hno⟩ := hrel
    have HNO := Hd.mk hno
    clear hno
    by_cases hlt : k < l.length
    · obtain ⟨ad, rfl, hcell⟩ := HR.out.at_ hlt
      obtain ⟨q, hq⟩ : ∃ q, q = l.getD k 0 := ⟨_, rfl⟩
      rw [← hq] at hcell
      have HQ := Hd.mk hq
      clear hq
      rcases hb : badc q with _ | _
      · have HB := Hd.mk hb
        clear hb
        go_wp2_with (first | (go_at_call 55; refine (bad_any _ _).mono ?_; rintro e w' ⟨rfl, rfl⟩; rw [HB.out]))
        go_round
        case rel => exact ⟨k + 1, by omega, by go_num, no_more HNO.out (by rw [← HQ.out]; exact HB.out)⟩
        case measure => simp [intOf]; omega
      have HB := Hd.mk hb
      clear hb
      go_wp2_with (first | (go_at_call 55; refine (bad_any _ _).mono ?_; rintro e w' ⟨rfl, rfl⟩; rw [HB.out]))
      go_ret
      refine ⟨k, rfl, ?_, rfl⟩
      rw [decide_eq_true (by omega)]
      symm
      rw [List.any_eq_true]
      exact ⟨l[k], List.getElem_mem hlt, by have h := HB.out; rw [HQ.out] at h; rwa [show l.getD k 0 = l[k] by simp [hlt]] at h⟩
    go_wp2
    go_ret
    refine ⟨-1, rfl, ?_, rfl⟩
    rw [decide_eq_false (by omega)]
    symm
    rw [List.any_eq_false]
    intro x hx
    obtain ⟨j, hj, rfl⟩ := List.getElem_of_mem hx
    have := HNO.out j (by omega)
    simpa [hj] using this
theorem cont_got (A : Option Addr) (c : Nat) (l : List Int) (w : World) (hr : RI w A l) (hc : l.length ≤ 140737488351232) :
    Calls Try.prog 54 #[.slice A l.length c, .func (.func 55) #[] #[]] w (Got w (isV (.bool (l.any badc))).p) := by
  have HR := Hd.mk hr
  clear hr
  go_enter Try.func54, Try.ntmps54
  go_wp2_with (first | (go_at_call 81; refine (idx_any _ _ _ _ HR.out hc).mono ?_; rintro e w' ⟨i, rfl, hi, rfl⟩; have HI := Hd.mk hi; clear hi))
  go_ret
  exact ⟨_, rfl, Below.refl _ _, by show Value.bool _ = _; rw [← HI.out]⟩
theorem eq_take {l m : List Int} {k : Nat} (h : l.take k = m.take k) (h1 : k < l.length) (h2 : k < m.length) (h3 : l.getD k 0 = m.getD k 0) : l.take (k + 1) = m.take (k + 1) := by
  rw [List.take_add_one, List.take_add_one, h, List.getElem?_eq_getElem h1, List.getElem?_eq_getElem h2]
  have e1 : l.getD k 0 = l[k] := by simp [h1]
  have e2 : m.getD k 0 = m[k] := by simp [h2]
  rw [← e1, ← e2, h3]
set_option maxRecDepth 100000 in
theorem equal_got (A : Option Addr) (c : Nat) (l : List Int) (A' : Option Addr) (c' : Nat) (m : List Int) (w : World) (hr : RI w A l) (hr' : RI w A' m) (hl : l.length ≤ 1000000) (hm : m.length ≤ 1000000) :
    Calls Try.prog 32 #[.slice A l.length c, .slice A' m.length c'] w (Got w (isV (.bool (decide (l = m)))).p) := by
  have HR := Hd.mk hr
  have HR' := Hd.mk hr'
  clear hr hr'
  by_cases hlen : l.length = m.length
  · obtain ⟨n, hn⟩ : ∃ n, n = l.length := ⟨_, rfl⟩
    have hn' : n = m.length := hn.trans hlen
    rw [← hn, ← hn']
    have HN := Hd.mk hn
    have HN' := Hd.mk hn'
    rw [← hn] at hl
    clear hn hn' hlen hm
    have hnn : ((n : Int) == (n : Int)) = true := by simp
    go_enter Try.func32, Try.ntmps32
    go_wp2
    go_loopw [5, 13] (fun s i wr => ∃ k : Nat, k ≤ n ∧ i = .int .i64 k ∧ l.take k = m.take k ∧ Below w.heap.size w wr) (fun _ i _ => n - (intOf i).toNat)
    case atStart => exact ⟨0, Nat.zero_le _, rfl, rfl, Below.refl _ _⟩
    case round =>
      obtain ⟨k, hk, rfl, htk, hbel⟩ := hrel
      have HT := Hd.mk htk
      have HB := Hd.mk hbel
      clear htk hnn hbel
      by_cases hlt : k < n
      · obtain ⟨ad, rfl, hcell⟩ := (HR.out.to HB.out).at_ (k := k) (by rw [← HN.out]; exact hlt)
        obtain ⟨ad', rfl, hcell'⟩ := (HR'.out.to HB.out).at_ (k := k) (by rw [← HN'.out]; exact hlt)
        obtain ⟨p, hp⟩ : ∃ p, p = l.getD k 0 := ⟨_, rfl⟩
        obtain ⟨q, hq⟩ : ∃ q, q = m.getD k 0 := ⟨_, rfl⟩
        rw [← hp] at hcell
        rw [← hq] at hcell'
        have HP := Hd.mk hp
        have HQ := Hd.mk hq
        clear hp hq
        by_cases he : p = q
        · subst he
          go_wp2_with fail
          go_quiet (fail)
          go_wp2_with fail
          go_roundw
          case rel => exact ⟨k + 1, by omega, by go_num, eq_take HT.out (by rw [← HN.out]; exact hlt) (by rw [← HN'.out]; exact hlt) (by rw [← HP.out, ← HQ.out]), below_drewN HB.out _⟩
          case measure => simp [intOf]; omega
        have HE := Hd.mk he
        have hbe : (p == q) = false := by simpa using he
        clear he
        go_wp2_with fail
        go_quiet (fail)
        go_wp2_with fail
        go_ret
        exact ⟨_, rfl, below_drewN HB.out _, by show Value.bool false = _; rw [decide_eq_false (fun h => HE.out (by rw [HP.out, HQ.out, h]))]⟩
      go_wp2
      go_ret
      refine ⟨_, rfl, HB.out, ?_⟩
      show Value.bool true = _
      rw [decide_eq_true]
      have e := HT.out
      rwa [List.take_of_length_le (by have := HN.out; omega), List.take_of_length_le (by have := HN'.out; omega)] at e
  have hne : (((l.length : Nat) : Int) == ((m.length : Nat) : Int)) = false := by rw [beq_eq_false_iff_ne]; omega
  have HX : Hd (l ≠ m) := ⟨fun h => hlen (by rw [h])⟩
  clear hlen
  obtain ⟨n, hn⟩ : ∃ n, n = l.length := ⟨_, rfl⟩
  obtain ⟨n', hn'⟩ : ∃ n, n = m.length := ⟨_, rfl⟩
  rw [← hn, ← hn'] at hne ⊢
  clear hn hn' HR HR'
  go_enter Try.func32, Try.ntmps32
  go_wp2
  go_ret
  exact ⟨_, rfl, Below.refl _ _, by show Value.bool false = _; rw [decide_eq_false HX.out]⟩
set_option maxRecDepth 100000 in
theorem clone_got (A : Option Addr) (c : Nat) (l : List Int) (w : World) (hr : RI w A l) (hl : l.length ≤ 1000000) :
    Calls Try.prog 36 #[.slice A l.length c] w (Got w (isCl w.heap.size l).p) := by
  rcases A with _ | ad
  · have heq := fun W => Lib.run_eql_slice_nil (P := Try.prog) W 22 3 none l.length c 0 0 Try.underlying22
    have h0 : l = [] := by
      rcases l with _ | ⟨x, l⟩
      · rfl
      obtain ⟨ad, h, _⟩ := hr (by simp)
      cases h
    have H0 := Hd.mk h0
    clear hr hl h0
    go_enter Try.func36, Try.ntmps36
    go_wp2
    go_ret
    exact ⟨_, rfl, Below.refl _ _, none, 0, by rw [H0.out]; rfl, by rw [H0.out]; exact RI.nil _ _, (fun ad h => by cases h), by rw [H0.out]; exact Nat.le_refl _, by omega⟩
  have heq := fun W => Lib.run_eql_slice_nil (P := Try.prog) W 22 3 (some ad) l.length c 0 0 Try.underlying22
  have hown : (w.alloc (.cells #[] 3)).ownsRow w.heap.size 3 1 (.slice (some ⟨w.heap.size, 0, none⟩) 0 0) 0 (ints []) := ⟨rfl, .inr ⟨w.heap.size, 0, #[], rfl, Nat.le_refl _, heap_alloc_new w (.cells #[] 3), Nat.le_refl _, by unfold maxLen; omega, rfl, rfl⟩⟩
  have hri := hr.to (below_alloc (Below.refl _ _) (.cells #[] 3))
  have hrd : (ints l).length = l.length * 1 ∧ (0 < l.length → ∃ ad', some ad = some ad' ∧ ad'.block < (w.alloc (.cells #[] 3)).heap.size ∧ ∀ j u, (ints l)[j]? = some u → (w.alloc (.cells #[] 3)).cell? (ad'.add j) = some u) := by
    refine ⟨by rw [ints_length, Nat.mul_one], fun hn => ?_⟩
    obtain ⟨ad', e, hc⟩ := hri hn
    refine ⟨ad', e, ?_, fun j u hu => ?_⟩
    · have := World.block_lt_of_cell? _ _ (hc 0 hn)
      rwa [block_add] at this
    have hj : j < l.length := by
      rcases Nat.lt_or_ge j l.length with h | h
      · exact h
      rw [List.getElem?_eq_none (by rw [ints_length]; exact h)] at hu; cases hu
    rw [ints_get l hj] at hu
    rw [hc j hj, ← Option.some.inj hu]
  have HO := Hd.mk hown
  have HR := Hd.mk hrd
  obtain ⟨i0, hi, hz0, hz1, hz2⟩ := info_parts Try.info_int
  clear hr hown hrd hri
  go_enter Try.func36, Try.ntmps36
  go_wp2_with (first | (at_builtin; go_loud (refine wpList_append_any _ rfl (.tmp 5) (.tmp 6) 22 rfl w.heap.size 3 i0 (.int .i64 0) 1 8 Try.underlying22 hi hz0 hz1 hz2 rfl (by decide) (.slice (some ⟨w.heap.size, 0, none⟩) 0 0) 0 (ints []) rfl HO.out _ (some ad) l.length c (ints l) rfl HR.out (by intro u hu; obtain ⟨x, _, rfl⟩ := List.mem_map.1 hu; rfl) (by unfold maxLen; omega) (by omega) (by simp) ?_; intro v1 w1 hown1 hg1 hat1)))
  rw [Nat.zero_add, show ints [] ++ ints l = ints l from rfl] at hown1
  have hres : ∃ A k, v1 = .slice A l.length k ∧ RI w1 A l ∧ (∀ ad, A = some ad → w.heap.size ≤ ad.block) ∧ l.length ≤ k ∧ k ≤ 9223372036854775807 := by
    rcases hown1.2 with ⟨rfl, h0⟩ | ⟨g, cap, cur, rfl, hg, hh, hnc, hcm, hcs, htk⟩
    · have : l = [] := List.eq_nil_of_length_eq_zero h0
      subst this
      exact ⟨none, 0, rfl, RI.nil _ _, (fun ad h => by cases h), Nat.le_refl _, by omega⟩
    refine ⟨some ⟨g, 0, none⟩, cap, rfl, fun _ => ⟨_, rfl, fun j hj => ?_⟩, (fun ad h => by rw [← Option.some.inj h]; exact hg), hnc, by unfold maxLen at hcm; omega⟩
    rw [addr_zero, cell_of_row w1 g j cur 3 (0, 0) hh, ← Array.getElem?_toList]
    have : cur.toList[j]? = (ints l)[j]? := by
      rw [← htk, List.getElem?_take, if_pos (by omega)]
    rw [this, ints_get l hj]
  have HRES := Hd.mk hres
  clear hres hown1
  obtain ⟨A1, k1, rfl, r1, r2, r3, r4⟩ := HRES.out
  go_wp2
  go_ret
  exact ⟨_, rfl, (below_alloc (Below.refl w.heap.size w) _).grown hg1 (by simp) (fun j e => by cases e; exact Nat.le_refl _), A1, k1, rfl, r1, r2, r3, r4⟩
end Go.Proofs.Ytddbmckbankmeaa
set_option linter.unusedVariables false
set_option linter.unusedSimpArgs false
namespace Go.Proofs.Ytddbmckbankmeaa
open Go.RowKit
def validB (W H : Int) (xs : List Int) : Bool := sizeB W H && (decide ((xs.length : Int) = W * H) && !xs.any badc)
theorem sizeB_bounds {W H : Int} (h : sizeB W H = true) : (1 ≤ W ∧ W ≤ 8) ∧ 1 ≤ H ∧ H ≤ 8 := by
  unfold sizeB at h
  simp only [Bool.and_eq_true, decide_eq_true_eq] at h
  exact h
theorem size_mul {W H : Int} (h : sizeB W H = true) : 0 ≤ W * H ∧ W * H ≤ 64 := by
  have := sizeB_bounds h
  exact mul_small (by omega) (by omega)
section
variable {w : World} {g n i : Nat} {t : TypeId} {xs : List Int} {rest : List Value} {b : Int} {L : List Ent}
theorem ints_at {xs : List Int} (rest : List Value) (h : n < xs.length) : (ints xs ++ rest)[n]? = some (.int .i64 (xs.getD n 0)) := by
  rw [List.getElem?_append_left (by rw [ints_length]; exact h), ints_get xs h]
theorem sto_at (hb : Blk w g t (ints xs ++ rest)) (h : n < xs.length) : (Instr.storeAt 3 (.pointer (some (Addr.add ⟨g, 0, none⟩ n))) (.int .i64 b)).run Try.prog w = .ok () (putL w g n [.int .i64 b]) := by
  rw [addr_zero]
  exact sto_I hb (ints_at rest h)
theorem Env.putI (k : Env w L) (i : Nat) (hi : L[i]? = some ⟨g, t, ints xs ++ rest⟩) (h : n < xs.length) : Env (putL w g n [.int .i64 b]) (L.set i ⟨g, t, ints (xs.set n b) ++ rest⟩) := by
  have h2 := k.putO (o := n) (v := .int .i64 b) i hi
  rwa [List.set_append_left _ _ (by rw [ints_length]; exact h), ints_set] at h2
end
def apS (ft : Int → Int) (xs : List Int) : Nat → List Int
  | 0 => List.replicate xs.length 0
  | k + 1 => (apS ft xs k).set (ft k).toNat (xs.getD k 0)
theorem apS_length (ft : Int → Int) (xs : List Int) : ∀ k, (apS ft xs k).length = xs.length
  | 0 => by simp [apS]
  | k + 1 => by simp [apS, apS_length ft xs k]
set_option maxRecDepth 100000 in
set_option maxHeartbeats 1000000 in
theorem Valid_got (Wd Ht : Int) (A : Option Addr) (k : Nat) (xs : List Int) (w : World) (hri : RI w A xs) :
    Calls Try.prog 16 #[.agg #[.int .i64 Wd, .int .i64 Ht, .slice A xs.length k]] w (Got w (isV (.bool (validB Wd Ht xs))).p) := by
  have HRI := Hd.mk hri
  clear hri
  by_cases h1 : sizeB Wd Ht = true
  · have m1 := size_mul h1
    have K1 := Hd.mk h1
    by_cases h2 : (xs.length : Int) = Wd * Ht
    · have K2 := Hd.mk (decide_eq_true h2)
      have hl : xs.length ≤ 64 := by omega
      by_cases h3 : xs.any badc = true
      · rw [show validB Wd Ht xs = false by unfold validB; rw [h1, decide_eq_true h2, h3]; rfl]
        have K3 := Hd.mk h3
        clear h1 h2 h3
        go_enter Try.func16, Try.ntmps16
        go_upto_region 1 with fail
        obtain ⟨W0, hW0⟩ : ∃ W : World, W = w.alloc (.cells #[.int .i64 Wd, .int .i64 Ht, .slice A xs.length k] 27) := ⟨_, rfl⟩
        rw [← hW0]
        obtain ⟨he, hb⟩ := env_one hW0
        have HE := Hd.mk he
        have HB := Hd.mk hb
        clear he hb hW0
        refine wp_region_vd 20 [3, 4, 5, 6, 7, 8, 9, 10, 11, 12, 13, 14, 15, 16, 17, 18, 19, 20, 21, 22] [3, 4, 7, 9, 11, 12, 13, 14, 15, 18, 19] [] 84 [.int .i64 0, .int .i64 0] [isV (.agg #[.int .i64 Wd, .int .i64 Ht, .slice A xs.length k]), isV (.agg #[.int .i64 Wd, .int .i64 Ht]), isV (.bool true), isV (.bool true), isV (.pointer (some ⟨w.heap.size, 2, none⟩)), isV (.slice A xs.length k), isV (.int .i64 (((xs.length : Nat) : Int))), isV (.pointer (some ⟨w.heap.size, 0, none⟩)), isV (.int .i64 Wd), isV (.pointer (some ⟨w.heap.size, 1, none⟩)), isV (.int .i64 Ht), isV (.int .i64 (Wd * Ht)), isV (.bool true), isV (.bool true), isV (.bool true), isV (.pointer (some ⟨w.heap.size, 2, none⟩)), isV (.slice A xs.length k), isV (.bool true), isV (.bool false), isV (.bool false)] (by rfl) alloc_Z ?_ ?_
        · intro qi qh qA aa wx hb hs hd
          match qi, qh, qA with
          | 0, _, _ => exact .inl ⟨rfl, op_ldT rfl rfl (hs 1 rfl) ((HE.out.to hb).get 0 rfl)⟩
          | 1, _, _ => exact .inl ⟨rfl, op_call1 rfl rfl Try.call50 (by rw [(show aa.eval (.tmp 3) = .agg #[.int .i64 Wd, .int .i64 Ht, .slice A xs.length k] from (hd 0 rfl))]; exact size_got Wd Ht A xs.length k _)⟩
          | 2, _, _ => exact .inl ⟨rfl, wp_b (bool_eq K1.out) (op_call1 rfl rfl Try.call53 (by rw [(show aa.eval (.tmp 4) = .agg #[.int .i64 Wd, .int .i64 Ht] from (hd 1 rfl))]; exact valid_got Wd Ht _))⟩
          | 3, _, _ => exact .inl ⟨rfl, op_mv rfl (hd 2 rfl)⟩
          | 4, _, _ => exact .inl ⟨⟨rfl, .inl (hd 3 rfl)⟩, ⟨_, op_faT2 rfl (hs 1 rfl), rfl⟩⟩
          | 5, _, _ => exact .inl ⟨⟨rfl, .inl (hd 3 rfl)⟩, op_ldS rfl rfl (hd 4 rfl) ((HE.out.to hb).cell 0 2 rfl rfl)⟩
          | 6, _, _ => exact .inl ⟨⟨rfl, .inl (hd 3 rfl)⟩, op_len rfl rfl (hd 5 rfl)⟩
          | 7, _, _ => exact .inl ⟨⟨rfl, .inl (hd 3 rfl)⟩, ⟨_, op_faT0 rfl (hs 1 rfl), rfl⟩⟩
          | 8, _, _ => exact .inl ⟨⟨rfl, .inl (hd 3 rfl)⟩, op_ldI rfl rfl (hd 7 rfl) ((HE.out.to hb).cell 0 0 rfl rfl)⟩
          | 9, _, _ => exact .inl ⟨⟨rfl, .inl (hd 3 rfl)⟩, ⟨_, op_faT1 rfl (hs 1 rfl), rfl⟩⟩
          | 10, _, _ => exact .inl ⟨⟨rfl, .inl (hd 3 rfl)⟩, op_ldI rfl rfl (hd 9 rfl) ((HE.out.to hb).cell 0 1 rfl rfl)⟩
          | 11, _, _ => exact .inl ⟨⟨rfl, .inl (hd 3 rfl)⟩, ⟨_, op_mul (by unfold Fit; omega) rfl (hd 8 rfl) (hd 10 rfl), rfl⟩⟩
          | 12, _, _ => exact .inl ⟨⟨rfl, .inl (hd 3 rfl)⟩, pure_b (bool_eq K2.out) (⟨_, op_eqlI rfl (hd 6 rfl) (hd 11 rfl), rfl⟩)⟩
          | 13, _, _ => exact .inl ⟨rfl, ⟨_, op_pickT rfl (hd 3 rfl) (hd 12 rfl), rfl⟩⟩
          | 14, _, _ => exact .inl ⟨rfl, op_mv rfl (hd 13 rfl)⟩
          | 15, _, _ => exact .inl ⟨⟨rfl, .inl (hd 14 rfl)⟩, ⟨_, op_faT2 rfl (hs 1 rfl), rfl⟩⟩
          | 16, _, _ => exact .inl ⟨⟨rfl, .inl (hd 14 rfl)⟩, op_ldS rfl rfl (hd 15 rfl) ((HE.out.to hb).cell 0 2 rfl rfl)⟩
          | 17, _, _ => exact .inl ⟨⟨rfl, .inl (hd 14 rfl)⟩, wp_b (bool_eq K3.out) (op_call2 rfl rfl Try.call54 (by rw [(show aa.eval (.tmp 19) = .slice A xs.length k from (hd 16 rfl))]; exact cont_got A k xs _ (HRI.out.to (bel_then HB.out hb)) (by omega)))⟩
          | 18, _, _ => exact .inl ⟨⟨rfl, .inl (hd 14 rfl)⟩, ⟨_, op_not rfl (hd 17 rfl), rfl⟩⟩
          | 19, _, _ => exact .inl ⟨rfl, ⟨_, op_pickT rfl (hd 14 rfl) (hd 18 rfl), rfl⟩⟩
          | qi + 20, h, _ => omega
        intro vs X1 hb hv hal hne
        replace HB := Hd.mk (bel_then HB.out hb)
        replace HE := Hd.mk (HE.out.to hb)
        have e22 : vs 22 = .bool false := hv 19 (by decide) rfl
        simp only [PA, e22]
        clear hv hal hne hb e22
        go_wp2_with fail
        go_ret
        exact ⟨_, rfl, HB.out, rfl⟩
      have h3' : xs.any badc = false := by simpa using h3
      rw [show validB Wd Ht xs = true by unfold validB; rw [h1, decide_eq_true h2, h3']; rfl]
      have K3 := Hd.mk h3'
      clear h1 h2 h3 h3'
      go_enter Try.func16, Try.ntmps16
      go_upto_region 1 with fail
      obtain ⟨W0, hW0⟩ : ∃ W : World, W = w.alloc (.cells #[.int .i64 Wd, .int .i64 Ht, .slice A xs.length k] 27) := ⟨_, rfl⟩
      rw [← hW0]
      obtain ⟨he, hb⟩ := env_one hW0
      have HE := Hd.mk he
      have HB := Hd.mk hb
      clear he hb hW0
      refine wp_region_vd 20 [3, 4, 5, 6, 7, 8, 9, 10, 11, 12, 13, 14, 15, 16, 17, 18, 19, 20, 21, 22] [3, 4, 7, 9, 11, 12, 13, 14, 15, 18, 19] [] 84 [.int .i64 0, .int .i64 0] [isV (.agg #[.int .i64 Wd, .int .i64 Ht, .slice A xs.length k]), isV (.agg #[.int .i64 Wd, .int .i64 Ht]), isV (.bool true), isV (.bool true), isV (.pointer (some ⟨w.heap.size, 2, none⟩)), isV (.slice A xs.length k), isV (.int .i64 (((xs.length : Nat) : Int))), isV (.pointer (some ⟨w.heap.size, 0, none⟩)), isV (.int .i64 Wd), isV (.pointer (some ⟨w.heap.size, 1, none⟩)), isV (.int .i64 Ht), isV (.int .i64 (Wd * Ht)), isV (.bool true), isV (.bool true), isV (.bool true), isV (.pointer (some ⟨w.heap.size, 2, none⟩)), isV (.slice A xs.length k), isV (.bool false), isV (.bool true), isV (.bool true)] (by rfl) alloc_Z ?_ ?_
      · intro qi qh qA aa wx hb hs hd
        match qi, qh, qA with
        | 0, _, _ => exact .inl ⟨rfl, op_ldT rfl rfl (hs 1 rfl) ((HE.out.to hb).get 0 rfl)⟩
        | 1, _, _ => exact .inl ⟨rfl, op_call1 rfl rfl Try.call50 (by rw [(show aa.eval (.tmp 3) = .agg #[.int .i64 Wd, .int .i64 Ht, .slice A xs.length k] from (hd 0 rfl))]; exact size_got Wd Ht A xs.length k _)⟩
        | 2, _, _ => exact .inl ⟨rfl, wp_b (bool_eq K1.out) (op_call1 rfl rfl Try.call53 (by rw [(show aa.eval (.tmp 4) = .agg #[.int .i64 Wd, .int .i64 Ht] from (hd 1 rfl))]; exact valid_got Wd Ht _))⟩
        | 3, _, _ => exact .inl ⟨rfl, op_mv rfl (hd 2 rfl)⟩
        | 4, _, _ => exact .inl ⟨⟨rfl, .inl (hd 3 rfl)⟩, ⟨_, op_faT2 rfl (hs 1 rfl), rfl⟩⟩
        | 5, _, _ => exact .inl ⟨⟨rfl, .inl (hd 3 rfl)⟩, op_ldS rfl rfl (hd 4 rfl) ((HE.out.to hb).cell 0 2 rfl rfl)⟩
        | 6, _, _ => exact .inl ⟨⟨rfl, .inl (hd 3 rfl)⟩, op_len rfl rfl (hd 5 rfl)⟩
        | 7, _, _ => exact .inl ⟨⟨rfl, .inl (hd 3 rfl)⟩, ⟨_, op_faT0 rfl (hs 1 rfl), rfl⟩⟩
        | 8, _, _ => exact .inl ⟨⟨rfl, .inl (hd 3 rfl)⟩, op_ldI rfl rfl (hd 7 rfl) ((HE.out.to hb).cell 0 0 rfl rfl)⟩
        | 9, _, _ => exact .inl ⟨⟨rfl, .inl (hd 3 rfl)⟩, ⟨_, op_faT1 rfl (hs 1 rfl), rfl⟩⟩
        | 10, _, _ => exact .inl ⟨⟨rfl, .inl (hd 3 rfl)⟩, op_ldI rfl rfl (hd 9 rfl) ((HE.out.to hb).cell 0 1 rfl rfl)⟩
        | 11, _, _ => exact .inl ⟨⟨rfl, .inl (hd 3 rfl)⟩, ⟨_, op_mul (by unfold Fit; omega) rfl (hd 8 rfl) (hd 10 rfl), rfl⟩⟩
        | 12, _, _ => exact .inl ⟨⟨rfl, .inl (hd 3 rfl)⟩, pure_b (bool_eq K2.out) (⟨_, op_eqlI rfl (hd 6 rfl) (hd 11 rfl), rfl⟩)⟩
        | 13, _, _ => exact .inl ⟨rfl, ⟨_, op_pickT rfl (hd 3 rfl) (hd 12 rfl), rfl⟩⟩
        | 14, _, _ => exact .inl ⟨rfl, op_mv rfl (hd 13 rfl)⟩
        | 15, _, _ => exact .inl ⟨⟨rfl, .inl (hd 14 rfl)⟩, ⟨_, op_faT2 rfl (hs 1 rfl), rfl⟩⟩
        | 16, _, _ => exact .inl ⟨⟨rfl, .inl (hd 14 rfl)⟩, op_ldS rfl rfl (hd 15 rfl) ((HE.out.to hb).cell 0 2 rfl rfl)⟩
        | 17, _, _ => exact .inl ⟨⟨rfl, .inl (hd 14 rfl)⟩, wp_b (bool_eq K3.out) (op_call2 rfl rfl Try.call54 (by rw [(show aa.eval (.tmp 19) = .slice A xs.length k from (hd 16 rfl))]; exact cont_got A k xs _ (HRI.out.to (bel_then HB.out hb)) (by omega)))⟩
        | 18, _, _ => exact .inl ⟨⟨rfl, .inl (hd 14 rfl)⟩, ⟨_, op_not rfl (hd 17 rfl), rfl⟩⟩
        | 19, _, _ => exact .inl ⟨rfl, ⟨_, op_pickT rfl (hd 14 rfl) (hd 18 rfl), rfl⟩⟩
        | qi + 20, h, _ => omega
      intro vs X1 hb hv hal hne
      replace HB := Hd.mk (bel_then HB.out hb)
      replace HE := Hd.mk (HE.out.to hb)
      have e22 : vs 22 = .bool true := hv 19 (by decide) rfl
      simp only [PA, e22]
      clear hv hal hne hb e22
      go_wp2_with fail
      go_ret
      exact ⟨_, rfl, HB.out, rfl⟩
    have K2 := Hd.mk (decide_eq_false h2)
    rw [show validB Wd Ht xs = false by unfold validB; rw [h1, decide_eq_false h2]; rfl]
    clear h1 h2
    go_enter Try.func16, Try.ntmps16
    go_upto_region 1 with fail
    obtain ⟨W0, hW0⟩ : ∃ W : World, W = w.alloc (.cells #[.int .i64 Wd, .int .i64 Ht, .slice A xs.length k] 27) := ⟨_, rfl⟩
    rw [← hW0]
    obtain ⟨he, hb⟩ := env_one hW0
    have HE := Hd.mk he
    have HB := Hd.mk hb
    clear he hb hW0
    refine wp_region_vd 20 [3, 4, 5, 6, 7, 8, 9, 10, 11, 12, 13, 14, 15, 16, 17, 18, 19, 20, 21, 22] [3, 4, 7, 9, 11, 12, 13, 14, 19] [] 84 [.int .i64 0, .int .i64 0] [isV (.agg #[.int .i64 Wd, .int .i64 Ht, .slice A xs.length k]), isV (.agg #[.int .i64 Wd, .int .i64 Ht]), isV (.bool true), isV (.bool true), isV (.pointer (some ⟨w.heap.size, 2, none⟩)), isV (.slice A xs.length k), isV (.int .i64 (((xs.length : Nat) : Int))), isV (.pointer (some ⟨w.heap.size, 0, none⟩)), isV (.int .i64 Wd), isV (.pointer (some ⟨w.heap.size, 1, none⟩)), isV (.int .i64 Ht), isV (.int .i64 (Wd * Ht)), isV (.bool false), isV (.bool false), isV (.bool false), isV undef, isV undef, isV undef, isV undef, isV (.bool false)] (by rfl) alloc_Z ?_ ?_
    · intro qi qh qA aa wx hb hs hd
      match qi, qh, qA with
      | 0, _, _ => exact .inl ⟨rfl, op_ldT rfl rfl (hs 1 rfl) ((HE.out.to hb).get 0 rfl)⟩
      | 1, _, _ => exact .inl ⟨rfl, op_call1 rfl rfl Try.call50 (by rw [(show aa.eval (.tmp 3) = .agg #[.int .i64 Wd, .int .i64 Ht, .slice A xs.length k] from (hd 0 rfl))]; exact size_got Wd Ht A xs.length k _)⟩
      | 2, _, _ => exact .inl ⟨rfl, wp_b (bool_eq K1.out) (op_call1 rfl rfl Try.call53 (by rw [(show aa.eval (.tmp 4) = .agg #[.int .i64 Wd, .int .i64 Ht] from (hd 1 rfl))]; exact valid_got Wd Ht _))⟩
      | 3, _, _ => exact .inl ⟨rfl, op_mv rfl (hd 2 rfl)⟩
      | 4, _, _ => exact .inl ⟨⟨rfl, .inl (hd 3 rfl)⟩, ⟨_, op_faT2 rfl (hs 1 rfl), rfl⟩⟩
      | 5, _, _ => exact .inl ⟨⟨rfl, .inl (hd 3 rfl)⟩, op_ldS rfl rfl (hd 4 rfl) ((HE.out.to hb).cell 0 2 rfl rfl)⟩
      | 6, _, _ => exact .inl ⟨⟨rfl, .inl (hd 3 rfl)⟩, op_len rfl rfl (hd 5 rfl)⟩
      | 7, _, _ => exact .inl ⟨⟨rfl, .inl (hd 3 rfl)⟩, ⟨_, op_faT0 rfl (hs 1 rfl), rfl⟩⟩
      | 8, _, _ => exact .inl ⟨⟨rfl, .inl (hd 3 rfl)⟩, op_ldI rfl rfl (hd 7 rfl) ((HE.out.to hb).cell 0 0 rfl rfl)⟩
      | 9, _, _ => exact .inl ⟨⟨rfl, .inl (hd 3 rfl)⟩, ⟨_, op_faT1 rfl (hs 1 rfl), rfl⟩⟩
      | 10, _, _ => exact .inl ⟨⟨rfl, .inl (hd 3 rfl)⟩, op_ldI rfl rfl (hd 9 rfl) ((HE.out.to hb).cell 0 1 rfl rfl)⟩
      | 11, _, _ => exact .inl ⟨⟨rfl, .inl (hd 3 rfl)⟩, ⟨_, op_mul (by unfold Fit; omega) rfl (hd 8 rfl) (hd 10 rfl), rfl⟩⟩
      | 12, _, _ => exact .inl ⟨⟨rfl, .inl (hd 3 rfl)⟩, pure_b (bool_eq K2.out) (⟨_, op_eqlI rfl (hd 6 rfl) (hd 11 rfl), rfl⟩)⟩
      | 13, _, _ => exact .inl ⟨rfl, ⟨_, op_pickT rfl (hd 3 rfl) (hd 12 rfl), rfl⟩⟩
      | 14, _, _ => exact .inl ⟨rfl, op_mv rfl (hd 13 rfl)⟩
      | 15, _, _ => exact .inr ⟨⟨rfl, .inl (hd 14 rfl)⟩, rfl⟩
      | 16, _, _ => exact .inr ⟨⟨rfl, .inl (hd 14 rfl)⟩, rfl⟩
      | 17, _, _ => exact .inr ⟨⟨rfl, .inl (hd 14 rfl)⟩, rfl⟩
      | 18, _, _ => exact .inr ⟨⟨rfl, .inl (hd 14 rfl)⟩, rfl⟩
      | 19, _, _ => exact .inl ⟨rfl, ⟨_, op_pickF rfl (hd 14 rfl) rfl, rfl⟩⟩
      | qi + 20, h, _ => omega
    intro vs X1 hb hv hal hne
    replace HB := Hd.mk (bel_then HB.out hb)
    replace HE := Hd.mk (HE.out.to hb)
    have e22 : vs 22 = .bool false := hv 19 (by decide) rfl
    simp only [PA, e22]
    clear hv hal hne hb e22
    go_wp2_with fail
    go_ret
    exact ⟨_, rfl, HB.out, rfl⟩
  have h1' : sizeB Wd Ht = false := by simpa using h1
  have K1 := Hd.mk h1'
  rw [show validB Wd Ht xs = false by unfold validB; rw [h1']; rfl]
  clear h1 h1'
  go_enter Try.func16, Try.ntmps16
  go_upto_region 1 with fail
  obtain ⟨W0, hW0⟩ : ∃ W : World, W = w.alloc (.cells #[.int .i64 Wd, .int .i64 Ht, .slice A xs.length k] 27) := ⟨_, rfl⟩
  rw [← hW0]
  obtain ⟨he, hb⟩ := env_one hW0
  have HE := Hd.mk he
  have HB := Hd.mk hb
  clear he hb hW0
  refine wp_region_vd 20 [3, 4, 5, 6, 7, 8, 9, 10, 11, 12, 13, 14, 15, 16, 17, 18, 19, 20, 21, 22] [3, 13, 14, 19] [] 84 [.int .i64 0, .int .i64 0] [isV (.agg #[.int .i64 Wd, .int .i64 Ht, .slice A xs.length k]), isV (.agg #[.int .i64 Wd, .int .i64 Ht]), isV (.bool false), isV (.bool false), isV undef, isV undef, isV undef, isV undef, isV undef, isV undef, isV undef, isV undef, isV undef, isV (.bool false), isV (.bool false), isV undef, isV undef, isV undef, isV undef, isV (.bool false)] (by rfl) alloc_Z ?_ ?_
  · intro qi qh qA aa wx hb hs hd
    match qi, qh, qA with
    | 0, _, _ => exact .inl ⟨rfl, op_ldT rfl rfl (hs 1 rfl) ((HE.out.to hb).get 0 rfl)⟩
    | 1, _, _ => exact .inl ⟨rfl, op_call1 rfl rfl Try.call50 (by rw [(show aa.eval (.tmp 3) = .agg #[.int .i64 Wd, .int .i64 Ht, .slice A xs.length k] from (hd 0 rfl))]; exact size_got Wd Ht A xs.length k _)⟩
    | 2, _, _ => exact .inl ⟨rfl, wp_b (bool_eq K1.out) (op_call1 rfl rfl Try.call53 (by rw [(show aa.eval (.tmp 4) = .agg #[.int .i64 Wd, .int .i64 Ht] from (hd 1 rfl))]; exact valid_got Wd Ht _))⟩
    | 3, _, _ => exact .inl ⟨rfl, op_mv rfl (hd 2 rfl)⟩
    | 4, _, _ => exact .inr ⟨⟨rfl, .inl (hd 3 rfl)⟩, rfl⟩
    | 5, _, _ => exact .inr ⟨⟨rfl, .inl (hd 3 rfl)⟩, rfl⟩
    | 6, _, _ => exact .inr ⟨⟨rfl, .inl (hd 3 rfl)⟩, rfl⟩
    | 7, _, _ => exact .inr ⟨⟨rfl, .inl (hd 3 rfl)⟩, rfl⟩
    | 8, _, _ => exact .inr ⟨⟨rfl, .inl (hd 3 rfl)⟩, rfl⟩
    | 9, _, _ => exact .inr ⟨⟨rfl, .inl (hd 3 rfl)⟩, rfl⟩
    | 10, _, _ => exact .inr ⟨⟨rfl, .inl (hd 3 rfl)⟩, rfl⟩
    | 11, _, _ => exact .inr ⟨⟨rfl, .inl (hd 3 rfl)⟩, rfl⟩
    | 12, _, _ => exact .inr ⟨⟨rfl, .inl (hd 3 rfl)⟩, rfl⟩
    | 13, _, _ => exact .inl ⟨rfl, ⟨_, op_pickF rfl (hd 3 rfl) rfl, rfl⟩⟩
    | 14, _, _ => exact .inl ⟨rfl, op_mv rfl (hd 13 rfl)⟩
    | 15, _, _ => exact .inr ⟨⟨rfl, .inl (hd 14 rfl)⟩, rfl⟩
    | 16, _, _ => exact .inr ⟨⟨rfl, .inl (hd 14 rfl)⟩, rfl⟩
    | 17, _, _ => exact .inr ⟨⟨rfl, .inl (hd 14 rfl)⟩, rfl⟩
    | 18, _, _ => exact .inr ⟨⟨rfl, .inl (hd 14 rfl)⟩, rfl⟩
    | 19, _, _ => exact .inl ⟨rfl, ⟨_, op_pickF rfl (hd 14 rfl) rfl, rfl⟩⟩
    | qi + 20, h, _ => omega
  intro vs X1 hb hv hal hne
  replace HB := Hd.mk (bel_then HB.out hb)
  replace HE := Hd.mk (HE.out.to hb)
  have e22 : vs 22 = .bool false := hv 19 (by decide) rfl
  simp only [PA, e22]
  clear hv hal hne hb e22
  go_wp2_with fail
  go_ret
  exact ⟨_, rfl, HB.out, rfl⟩
set_option maxRecDepth 100000 in
set_option maxHeartbeats 1000000 in
theorem stamps_got (Wd Ht : Int) (A : Option Addr) (k : Nat) (xs : List Int) (w : World) (hri : RI w A xs) (hlk : xs.length ≤ k) (hA : A = none → k = 0) :
    Calls Try.prog 15 #[.agg #[.int .i64 Wd, .int .i64 Ht, .slice A xs.length k]] w (Got w (isSt w.heap.size Wd Ht (xs.take 70)).p) := by
  have HRI := Hd.mk hri
  clear hri
  have HMIN : Hd ((if (70 : Int) < ((xs.length : Nat) : Int) then 70 else ((xs.length : Nat) : Int)) = (((xs.take 70).length : Nat) : Int)) := ⟨by rw [List.length_take]; split <;> omega⟩
  go_enter Try.func15, Try.ntmps15
  go_upto_region 1 with fail
  obtain ⟨W0, hW0⟩ : ∃ W : World, W = (w.alloc (.cells #[.int .i64 Wd, .int .i64 Ht, .slice A xs.length k] 24)).alloc (.cells #[.int .i64 0, .int .i64 0, .slice none 0 0] 27) := ⟨_, rfl⟩
  rw [← hW0]
  obtain ⟨he, hb⟩ := env_two hW0
  have HE := Hd.mk he
  have HB := Hd.mk hb
  clear he hb hW0
  have HWS := Hd.mk HB.out.size
  refine wp_region_vs 13 [3, 4, 5, 6, 7, 8, 9, 10, 11, 12, 13, 14, 15] [0, 2, 4, 6, 12] [] 84 [.int .i64 0, .int .i64 0] [isV (.pointer (some ⟨w.heap.size, 0, none⟩)), isV (.int .i64 Wd), isV (.pointer (some ⟨w.heap.size, 1, none⟩)), isV (.int .i64 Ht), isV (.pointer (some ⟨w.heap.size, 2, none⟩)), isV (.slice A xs.length k), isV (.pointer (some ⟨w.heap.size, 2, none⟩)), isV (.slice A xs.length k), isV (.int .i64 (((xs.length : Nat) : Int))), isV (.int .i64 ((((xs.take 70).length : Nat) : Int))), isV (.slice A ((xs.take 70).length) k), isCl W0.heap.size (xs.take 70), isSt W0.heap.size Wd Ht (xs.take 70)] (by kernel_rfl) (by kernel_rfl) (by kernel_rfl) (by rfl) alloc_Z (fun d v c a w h => by cases d <;> exact h) ?_ ?_
  · intro qi qh qA aa wx hb hs hd
    match qi, qh, qA with
    | 0, _, _ => exact ⟨_, op_faU0 rfl (hs 1 rfl), rfl⟩
    | 1, _, _ => exact op_ldI rfl rfl (hd 0 rfl) ((HE.out.to hb).cell 0 0 rfl rfl)
    | 2, _, _ => exact ⟨_, op_faU1 rfl (hs 1 rfl), rfl⟩
    | 3, _, _ => exact op_ldI rfl rfl (hd 2 rfl) ((HE.out.to hb).cell 0 1 rfl rfl)
    | 4, _, _ => exact ⟨_, op_faU2 rfl (hs 1 rfl), rfl⟩
    | 5, _, _ => exact op_ldS rfl rfl (hd 4 rfl) ((HE.out.to hb).cell 0 2 rfl rfl)
    | 6, _, _ => exact ⟨_, op_faU2 rfl (hs 1 rfl), rfl⟩
    | 7, _, _ => exact op_ldS rfl rfl (hd 6 rfl) ((HE.out.to hb).cell 0 2 rfl rfl)
    | 8, _, _ => exact op_len rfl rfl (hd 7 rfl)
    | 9, _, _ => exact wp_b (int_eq HMIN.out) (op_min rfl rfl (hd 8 rfl) rfl)
    | 10, _, _ => exact op_run rfl (op_cut (by rw [List.length_take]; omega) hlk hA rfl (hd 5 rfl) (hd 9 rfl) _) rfl
    | 11, _, _ => exact op_call1 rfl rfl Try.call36 (by rw [(show aa.eval (.tmp 13) = .slice A ((xs.take 70).length) k from (hd 10 rfl))]; exact got_cl hb.size (clone_got A k (xs.take 70) _ ((HRI.out.to (bel_then HB.out hb)).take 70) (by rw [List.length_take]; omega)))
    | 12, _, _ => exact op_buTC rfl (hd 1 rfl) (hd 3 rfl) (hd 11 rfl)
    | qi + 13, h, _ => omega
  intro vs X1 hb hv hal hne
  have HL0 := Hd.mk (HE.out.lt)
  replace HB := Hd.mk (bel_then HB.out hb)
  replace HE := Hd.mk (HE.out.to hb)
  have HLS := HL0
  have t15 : (isSt W0.heap.size Wd Ht (xs.take 70)).p (vs 15) X1 := hv 12 (by decide) rfl
  obtain ⟨A15, k15, e15, r15, f15, m15, n15⟩ := t15
  simp only [PA, e15]
  clear hv hal hne hb HL0 e15
  replace r15 := r15.put (g := (w.heap.size + 1)) (fun ad h => Nat.ne_of_gt (Nat.lt_of_lt_of_le (HLS.out ⟨w.heap.size + 1, _, _⟩ (List.mem_of_getElem? (i := 1) rfl)) (f15 ad h))) [.int .i64 Wd, .int .i64 Ht, .slice A15 ((xs.take 70).length) k15] 0
  refine wpList_st rfl rfl rfl rfl rfl (sto_T (HE.out.get 1 rfl)) ?_
  have HE' : Env (putL X1 (w.heap.size + 1) 0 [.int .i64 Wd, .int .i64 Ht, .slice A15 ((xs.take 70).length) k15]) [⟨w.heap.size, 24, [.int .i64 Wd, .int .i64 Ht, .slice A xs.length k]⟩, ⟨w.heap.size + 1, 27, [.int .i64 Wd, .int .i64 Ht, .slice A15 ((xs.take 70).length) k15]⟩] := HE.out.putF 1 rfl rfl
  have HB' := putL_below (show w.heap.size ≤ w.heap.size + 1 from by omega) [.int .i64 Wd, .int .i64 Ht, .slice A15 ((xs.take 70).length) k15] _ 0 HB.out
  generalize putL X1 (w.heap.size + 1) 0 [.int .i64 Wd, .int .i64 Ht, .slice A15 ((xs.take 70).length) k15] = X2 at *
  replace HE := Hd.mk HE'
  replace HB := Hd.mk HB'
  clear HE' HB'
  go_wp2_with fail
  have k0a := HE.out.cell 1 0 rfl rfl
  have k0b := HE.out.cell 1 1 rfl rfl
  have k0c := HE.out.cell 1 2 rfl rfl
  refine bodyPost_ret (v := .agg #[.int .i64 Wd, .int .i64 Ht, .slice A15 ((xs.take 70).length) k15]) (by simp [results, Try.results15, go_sem, k0a, k0b, k0c]) rfl ?_
  exact ⟨_, rfl, HB.out, A15, k15, rfl, r15, (fun ad h => Nat.le_trans HWS.out (f15 ad h)), m15, n15⟩
set_option maxRecDepth 100000 in
set_option maxHeartbeats 1000000 in
theorem stsame_got (Wd Ht : Int) (A : Option Addr) (k : Nat) (xs : List Int) (Wd' Ht' : Int) (A' : Option Addr) (k' : Nat) (ys : List Int) (w : World) (hri : RI w A xs) (hrj : RI w A' ys) (hl1 : xs.length ≤ 1000000) (hl2 : ys.length ≤ 1000000) :
    Calls Try.prog 20 #[.agg #[.int .i64 Wd, .int .i64 Ht, .slice A xs.length k], .agg #[.int .i64 Wd', .int .i64 Ht', .slice A' ys.length k']] w (Got w (isV (.bool (decide (Wd = Wd') && decide (Ht = Ht') && decide (xs = ys)))).p) := by
  have HRI := Hd.mk hri
  have HRJ := Hd.mk hrj
  clear hri hrj
  by_cases h1 : Wd = Wd'
  · have K1 := Hd.mk (decide_eq_true h1)
    by_cases h2 : Ht = Ht'
    · have K2 := Hd.mk (decide_eq_true h2)
      rw [show (decide (Wd = Wd') && decide (Ht = Ht') && decide (xs = ys)) = decide (xs = ys) by rw [decide_eq_true h1, decide_eq_true h2]; rfl]
      clear h1 h2
      obtain ⟨bq, hbq⟩ : ∃ b, b = decide (xs = ys) := ⟨_, rfl⟩
      rw [← hbq]
      have KB := Hd.mk hbq.symm
      clear hbq
      go_enter Try.func20, Try.ntmps20
      go_upto_region 1 with fail
      obtain ⟨W0, hW0⟩ : ∃ W : World, W = (w.alloc (.cells #[.int .i64 Wd, .int .i64 Ht, .slice A xs.length k] 24)).alloc (.cells #[.int .i64 Wd', .int .i64 Ht', .slice A' ys.length k'] 24) := ⟨_, rfl⟩
      rw [← hW0]
      obtain ⟨he, hb⟩ := env_two hW0
      have HE := Hd.mk he
      have HB := Hd.mk hb
      clear he hb hW0
      refine wp_region_vd 19 [5, 6, 7, 8, 9, 10, 11, 12, 13, 14, 15, 16, 17, 18, 19, 20, 21, 22, 23] [0, 2, 4, 5, 6, 8, 10, 11, 12, 13, 15, 18] [] 84 [.int .i64 0, .int .i64 0] [isV (.pointer (some ⟨w.heap.size, 0, none⟩)), isV (.int .i64 Wd), isV (.pointer (some ⟨w.heap.size + 1, 0, none⟩)), isV (.int .i64 Wd'), isV (.bool true), isV (.bool true), isV (.pointer (some ⟨w.heap.size, 1, none⟩)), isV (.int .i64 Ht), isV (.pointer (some ⟨w.heap.size + 1, 1, none⟩)), isV (.int .i64 Ht'), isV (.bool true), isV (.bool true), isV (.bool true), isV (.pointer (some ⟨w.heap.size, 2, none⟩)), isV (.slice A xs.length k), isV (.pointer (some ⟨w.heap.size + 1, 2, none⟩)), isV (.slice A' ys.length k'), isV (.bool bq), isV (.bool bq)] (by rfl) alloc_Z ?_ ?_
      · intro qi qh qA aa wx hb hs hd
        match qi, qh, qA with
        | 0, _, _ => exact .inl ⟨rfl, ⟨_, op_faU0 rfl (hs 2 rfl), rfl⟩⟩
        | 1, _, _ => exact .inl ⟨rfl, op_ldI rfl rfl (hd 0 rfl) ((HE.out.to hb).cell 0 0 rfl rfl)⟩
        | 2, _, _ => exact .inl ⟨rfl, ⟨_, op_faU0 rfl (hs 3 rfl), rfl⟩⟩
        | 3, _, _ => exact .inl ⟨rfl, op_ldI rfl rfl (hd 2 rfl) ((HE.out.to hb).cell 1 0 rfl rfl)⟩
        | 4, _, _ => exact .inl ⟨rfl, pure_b (bool_eq K1.out) (⟨_, op_eqlI rfl (hd 1 rfl) (hd 3 rfl), rfl⟩)⟩
        | 5, _, _ => exact .inl ⟨rfl, op_mv rfl (hd 4 rfl)⟩
        | 6, _, _ => exact .inl ⟨⟨rfl, .inl (hd 5 rfl)⟩, ⟨_, op_faU1 rfl (hs 2 rfl), rfl⟩⟩
        | 7, _, _ => exact .inl ⟨⟨rfl, .inl (hd 5 rfl)⟩, op_ldI rfl rfl (hd 6 rfl) ((HE.out.to hb).cell 0 1 rfl rfl)⟩
        | 8, _, _ => exact .inl ⟨⟨rfl, .inl (hd 5 rfl)⟩, ⟨_, op_faU1 rfl (hs 3 rfl), rfl⟩⟩
        | 9, _, _ => exact .inl ⟨⟨rfl, .inl (hd 5 rfl)⟩, op_ldI rfl rfl (hd 8 rfl) ((HE.out.to hb).cell 1 1 rfl rfl)⟩
        | 10, _, _ => exact .inl ⟨⟨rfl, .inl (hd 5 rfl)⟩, pure_b (bool_eq K2.out) (⟨_, op_eqlI rfl (hd 7 rfl) (hd 9 rfl), rfl⟩)⟩
        | 11, _, _ => exact .inl ⟨rfl, ⟨_, op_pickT rfl (hd 5 rfl) (hd 10 rfl), rfl⟩⟩
        | 12, _, _ => exact .inl ⟨rfl, op_mv rfl (hd 11 rfl)⟩
        | 13, _, _ => exact .inl ⟨⟨rfl, .inl (hd 12 rfl)⟩, ⟨_, op_faU2 rfl (hs 2 rfl), rfl⟩⟩
        | 14, _, _ => exact .inl ⟨⟨rfl, .inl (hd 12 rfl)⟩, op_ldS rfl rfl (hd 13 rfl) ((HE.out.to hb).cell 0 2 rfl rfl)⟩
        | 15, _, _ => exact .inl ⟨⟨rfl, .inl (hd 12 rfl)⟩, ⟨_, op_faU2 rfl (hs 3 rfl), rfl⟩⟩
        | 16, _, _ => exact .inl ⟨⟨rfl, .inl (hd 12 rfl)⟩, op_ldS rfl rfl (hd 15 rfl) ((HE.out.to hb).cell 1 2 rfl rfl)⟩
        | 17, _, _ => exact .inl ⟨⟨rfl, .inl (hd 12 rfl)⟩, wp_b (bool_eq KB.out) (op_call2 rfl rfl Try.call32 (by rw [(show aa.eval (.tmp 19) = .slice A xs.length k from (hd 14 rfl)), (show aa.eval (.tmp 21) = .slice A' ys.length k' from (hd 16 rfl))]; exact equal_got A k xs A' k' ys _ (HRI.out.to (bel_then HB.out hb)) (HRJ.out.to (bel_then HB.out hb)) hl1 hl2))⟩
        | 18, _, _ => exact .inl ⟨rfl, ⟨_, op_pickT rfl (hd 12 rfl) (hd 17 rfl), rfl⟩⟩
        | qi + 19, h, _ => omega
      intro vs X1 hb hv hal hne
      replace HB := Hd.mk (bel_then HB.out hb)
      replace HE := Hd.mk (HE.out.to hb)
      have e23 : vs 23 = .bool bq := hv 18 (by decide) rfl
      simp only [PA, e23]
      clear hv hal hne hb e23
      go_wp2_with fail
      go_ret
      exact ⟨_, rfl, HB.out, rfl⟩
    have K2 := Hd.mk (decide_eq_false h2)
    rw [show (decide (Wd = Wd') && decide (Ht = Ht') && decide (xs = ys)) = false by rw [decide_eq_true h1, decide_eq_false h2]; rfl]
    clear h1 h2
    go_enter Try.func20, Try.ntmps20
    go_upto_region 1 with fail
    obtain ⟨W0, hW0⟩ : ∃ W : World, W = (w.alloc (.cells #[.int .i64 Wd, .int .i64 Ht, .slice A xs.length k] 24)).alloc (.cells #[.int .i64 Wd', .int .i64 Ht', .slice A' ys.length k'] 24) := ⟨_, rfl⟩
    rw [← hW0]
    obtain ⟨he, hb⟩ := env_two hW0
    have HE := Hd.mk he
    have HB := Hd.mk hb
    clear he hb hW0
    refine wp_region_vd 19 [5, 6, 7, 8, 9, 10, 11, 12, 13, 14, 15, 16, 17, 18, 19, 20, 21, 22, 23] [0, 2, 4, 5, 6, 8, 10, 11, 12, 18] [] 84 [.int .i64 0, .int .i64 0] [isV (.pointer (some ⟨w.heap.size, 0, none⟩)), isV (.int .i64 Wd), isV (.pointer (some ⟨w.heap.size + 1, 0, none⟩)), isV (.int .i64 Wd'), isV (.bool true), isV (.bool true), isV (.pointer (some ⟨w.heap.size, 1, none⟩)), isV (.int .i64 Ht), isV (.pointer (some ⟨w.heap.size + 1, 1, none⟩)), isV (.int .i64 Ht'), isV (.bool false), isV (.bool false), isV (.bool false), isV undef, isV undef, isV undef, isV undef, isV undef, isV (.bool false)] (by rfl) alloc_Z ?_ ?_
    · intro qi qh qA aa wx hb hs hd
      match qi, qh, qA with
      | 0, _, _ => exact .inl ⟨rfl, ⟨_, op_faU0 rfl (hs 2 rfl), rfl⟩⟩
      | 1, _, _ => exact .inl ⟨rfl, op_ldI rfl rfl (hd 0 rfl) ((HE.out.to hb).cell 0 0 rfl rfl)⟩
      | 2, _, _ => exact .inl ⟨rfl, ⟨_, op_faU0 rfl (hs 3 rfl), rfl⟩⟩
      | 3, _, _ => exact .inl ⟨rfl, op_ldI rfl rfl (hd 2 rfl) ((HE.out.to hb).cell 1 0 rfl rfl)⟩
      | 4, _, _ => exact .inl ⟨rfl, pure_b (bool_eq K1.out) (⟨_, op_eqlI rfl (hd 1 rfl) (hd 3 rfl), rfl⟩)⟩
      | 5, _, _ => exact .inl ⟨rfl, op_mv rfl (hd 4 rfl)⟩
      | 6, _, _ => exact .inl ⟨⟨rfl, .inl (hd 5 rfl)⟩, ⟨_, op_faU1 rfl (hs 2 rfl), rfl⟩⟩
      | 7, _, _ => exact .inl ⟨⟨rfl, .inl (hd 5 rfl)⟩, op_ldI rfl rfl (hd 6 rfl) ((HE.out.to hb).cell 0 1 rfl rfl)⟩
      | 8, _, _ => exact .inl ⟨⟨rfl, .inl (hd 5 rfl)⟩, ⟨_, op_faU1 rfl (hs 3 rfl), rfl⟩⟩
      | 9, _, _ => exact .inl ⟨⟨rfl, .inl (hd 5 rfl)⟩, op_ldI rfl rfl (hd 8 rfl) ((HE.out.to hb).cell 1 1 rfl rfl)⟩
      | 10, _, _ => exact .inl ⟨⟨rfl, .inl (hd 5 rfl)⟩, pure_b (bool_eq K2.out) (⟨_, op_eqlI rfl (hd 7 rfl) (hd 9 rfl), rfl⟩)⟩
      | 11, _, _ => exact .inl ⟨rfl, ⟨_, op_pickT rfl (hd 5 rfl) (hd 10 rfl), rfl⟩⟩
      | 12, _, _ => exact .inl ⟨rfl, op_mv rfl (hd 11 rfl)⟩
      | 13, _, _ => exact .inr ⟨⟨rfl, .inl (hd 12 rfl)⟩, rfl⟩
      | 14, _, _ => exact .inr ⟨⟨rfl, .inl (hd 12 rfl)⟩, rfl⟩
      | 15, _, _ => exact .inr ⟨⟨rfl, .inl (hd 12 rfl)⟩, rfl⟩
      | 16, _, _ => exact .inr ⟨⟨rfl, .inl (hd 12 rfl)⟩, rfl⟩
      | 17, _, _ => exact .inr ⟨⟨rfl, .inl (hd 12 rfl)⟩, rfl⟩
      | 18, _, _ => exact .inl ⟨rfl, ⟨_, op_pickF rfl (hd 12 rfl) rfl, rfl⟩⟩
      | qi + 19, h, _ => omega
    intro vs X1 hb hv hal hne
    replace HB := Hd.mk (bel_then HB.out hb)
    replace HE := Hd.mk (HE.out.to hb)
    have e23 : vs 23 = .bool false := hv 18 (by decide) rfl
    simp only [PA, e23]
    clear hv hal hne hb e23
    go_wp2_with fail
    go_ret
    exact ⟨_, rfl, HB.out, rfl⟩
  have K1 := Hd.mk (decide_eq_false h1)
  rw [show (decide (Wd = Wd') && decide (Ht = Ht') && decide (xs = ys)) = false by rw [decide_eq_false h1]; rfl]
  clear h1
  go_enter Try.func20, Try.ntmps20
  go_upto_region 1 with fail
  obtain ⟨W0, hW0⟩ : ∃ W : World, W = (w.alloc (.cells #[.int .i64 Wd, .int .i64 Ht, .slice A xs.length k] 24)).alloc (.cells #[.int .i64 Wd', .int .i64 Ht', .slice A' ys.length k'] 24) := ⟨_, rfl⟩
  rw [← hW0]
  obtain ⟨he, hb⟩ := env_two hW0
  have HE := Hd.mk he
  have HB := Hd.mk hb
  clear he hb hW0
  refine wp_region_vd 19 [5, 6, 7, 8, 9, 10, 11, 12, 13, 14, 15, 16, 17, 18, 19, 20, 21, 22, 23] [0, 2, 4, 5, 11, 12, 18] [] 84 [.int .i64 0, .int .i64 0] [isV (.pointer (some ⟨w.heap.size, 0, none⟩)), isV (.int .i64 Wd), isV (.pointer (some ⟨w.heap.size + 1, 0, none⟩)), isV (.int .i64 Wd'), isV (.bool false), isV (.bool false), isV undef, isV undef, isV undef, isV undef, isV undef, isV (.bool false), isV (.bool false), isV undef, isV undef, isV undef, isV undef, isV undef, isV (.bool false)] (by rfl) alloc_Z ?_ ?_
  · intro qi qh qA aa wx hb hs hd
    match qi, qh, qA with
    | 0, _, _ => exact .inl ⟨rfl, ⟨_, op_faU0 rfl (hs 2 rfl), rfl⟩⟩
    | 1, _, _ => exact .inl ⟨rfl, op_ldI rfl rfl (hd 0 rfl) ((HE.out.to hb).cell 0 0 rfl rfl)⟩
    | 2, _, _ => exact .inl ⟨rfl, ⟨_, op_faU0 rfl (hs 3 rfl), rfl⟩⟩
    | 3, _, _ => exact .inl ⟨rfl, op_ldI rfl rfl (hd 2 rfl) ((HE.out.to hb).cell 1 0 rfl rfl)⟩
    | 4, _, _ => exact .inl ⟨rfl, pure_b (bool_eq K1.out) (⟨_, op_eqlI rfl (hd 1 rfl) (hd 3 rfl), rfl⟩)⟩
    | 5, _, _ => exact .inl ⟨rfl, op_mv rfl (hd 4 rfl)⟩
    | 6, _, _ => exact .inr ⟨⟨rfl, .inl (hd 5 rfl)⟩, rfl⟩
    | 7, _, _ => exact .inr ⟨⟨rfl, .inl (hd 5 rfl)⟩, rfl⟩
    | 8, _, _ => exact .inr ⟨⟨rfl, .inl (hd 5 rfl)⟩, rfl⟩
    | 9, _, _ => exact .inr ⟨⟨rfl, .inl (hd 5 rfl)⟩, rfl⟩
    | 10, _, _ => exact .inr ⟨⟨rfl, .inl (hd 5 rfl)⟩, rfl⟩
    | 11, _, _ => exact .inl ⟨rfl, ⟨_, op_pickF rfl (hd 5 rfl) rfl, rfl⟩⟩
    | 12, _, _ => exact .inl ⟨rfl, op_mv rfl (hd 11 rfl)⟩
    | 13, _, _ => exact .inr ⟨⟨rfl, .inl (hd 12 rfl)⟩, rfl⟩
    | 14, _, _ => exact .inr ⟨⟨rfl, .inl (hd 12 rfl)⟩, rfl⟩
    | 15, _, _ => exact .inr ⟨⟨rfl, .inl (hd 12 rfl)⟩, rfl⟩
    | 16, _, _ => exact .inr ⟨⟨rfl, .inl (hd 12 rfl)⟩, rfl⟩
    | 17, _, _ => exact .inr ⟨⟨rfl, .inl (hd 12 rfl)⟩, rfl⟩
    | 18, _, _ => exact .inl ⟨rfl, ⟨_, op_pickF rfl (hd 12 rfl) rfl, rfl⟩⟩
    | qi + 19, h, _ => omega
  intro vs X1 hb hv hal hne
  replace HB := Hd.mk (bel_then HB.out hb)
  replace HE := Hd.mk (HE.out.to hb)
  have e23 : vs 23 = .bool false := hv 18 (by decide) rfl
  simp only [PA, e23]
  clear hv hal hne hb e23
  go_wp2_with fail
  go_ret
  exact ⟨_, rfl, HB.out, rfl⟩
end Go.Proofs.Ytddbmckbankmeaa
