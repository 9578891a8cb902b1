/- Part 15 of the texts behind this claim. -/
import Derived.Test.YtddbmckbankmeaaKs1
import Derived.Test.YtddbmckbankmeaaKs9
import Derived.Test.YtddbmckbankmeaaKs14
set_option linter.unusedVariables false
set_option linter.unusedSimpArgs false
namespace Go.Proofs.Ytddbmckbankmeaa
open Go.RowKit
theorem knm_str : ∀ n, ∃ s, knm n = .string s
  | 0 => ⟨_, rfl⟩
  | 1 => ⟨_, rfl⟩
  | 2 => ⟨_, rfl⟩
  | 3 => ⟨_, rfl⟩
  | 4 => ⟨_, rfl⟩
  | 5 => ⟨_, rfl⟩
  | 6 => ⟨_, rfl⟩
  | 7 => ⟨_, rfl⟩
  | 8 => ⟨_, rfl⟩
  | 9 => ⟨_, rfl⟩
  | 10 => ⟨_, rfl⟩
  | n + 11 => ⟨_, rfl⟩
theorem op_eqlSS {o : Oper} {a : Act} {x y : Operand} {ty : TypeId} {v : Value} (hv : ∃ s, v = .string s) (ho : o.op = .binOp .eql 9 x y ty) (hx : a.eval x = v) (hy : a.eval y = v) (w : World) : (execOp a.eval o).run Try.prog w = .ok (.value (.bool true)) w := by
  obtain ⟨s, rfl⟩ := hv
  generalize a.eval = ev at hx hy ⊢
  unfold execOp
  simp only [ho, hx, hy]
  simp [go_sem]
section
variable {W H : Int} {xs : List Int} {v2 : Value} {w : World}
theorem valid_ad {A : Option Addr} (hv : validB W H xs = true) (hr : RI w A xs) : ∃ ad, A = some ad := by
  have h1 := valid_len hv
  have h2 := sizeB_bounds (valid_size hv)
  have h3 := Int.mul_pos (show 0 < W by omega) (show 0 < H by omega)
  obtain ⟨ad, e, _⟩ := hr.at_ (k := 0) (by omega)
  exact ⟨ad, e⟩
theorem Kind_rd_ok (hv : validB W H xs = true) (hW : 1 ≤ W ∧ W ≤ 6) (hH : 1 ≤ H ∧ H ≤ 6) (h2 : (rdS W H xs).p v2 w) : Calls Try.prog 34 #[v2] w (Got w (isP (isV (knm (kindF (colF W H xs)))) (isV (.int .i64 0))).p) := by
  obtain ⟨A, k, rfl, hr⟩ := h2
  obtain ⟨ad, rfl⟩ := valid_ad hv hr
  exact Kind_ok W H ad k xs hW hH w hr hv
theorem Kind_rd_arg (hv : validB W H xs = false) (h2 : (rdS W H xs).p v2 w) : Calls Try.prog 34 #[v2] w (Got w (isP (isV (.string { data := #[] })) (isV (.int .i64 2))).p) := by
  obtain ⟨A, k, rfl, hr⟩ := h2
  exact Kind_arg W H A k xs w hr hv
theorem Kind_rd_big (hv : validB W H xs = true) (hb : 6 < W ∨ 6 < H) (h2 : (rdS W H xs).p v2 w) : Calls Try.prog 34 #[v2] w (Got w (isP (isV (.string { data := #[] })) (isV (.int .i64 3))).p) := by
  obtain ⟨A, k, rfl, hr⟩ := h2
  exact Kind_big W H A k xs hb w hr hv
end
end Go.Proofs.Ytddbmckbankmeaa
set_option linter.unusedVariables false
set_option linter.unusedSimpArgs false
namespace Go.Proofs.Ytddbmckbankmeaa
open Go.RowKit
def OwnI (lo : Nat) (w : World) (v : Value) (xs : List Int) : Prop := w.ownsRow lo 3 1 v xs.length (ints xs)
section
variable {lo g o : Nat} {w w' : World} {v : Value} {xs : List Int} {vs : List Value}
theorem OwnI.to (h : OwnI lo w v xs) (hb : Below w.heap.size w w') : OwnI lo w' v xs := own_to h hb
theorem OwnI.put (h : OwnI lo w v xs) (hlt : ∀ k, v.ownBlock = some k → k < g) : OwnI lo (putL w g o vs) v xs := own_put hlt h
theorem OwnI.lt (h : OwnI lo w v xs) : ∀ k, v.ownBlock = some k → lo ≤ k ∧ k < w.heap.size := World.ownsRow.lt h
theorem OwnI.lower {lo' : Nat} (h : lo ≤ lo') (ho : OwnI lo' w v xs) : OwnI lo w v xs := by
  refine ⟨ho.1, ?_⟩
  rcases ho.2 with hn | ⟨g', cap, cur, rfl, hb, hgg, rest⟩
  · exact .inl hn
  · exact .inr ⟨g', cap, cur, rfl, by omega, hgg, rest⟩
theorem Env.grownBy_ {row : Option Nat} : ∀ {L : List Ent}, Env w L → w.grownBy w' row → (∀ e ∈ L, some e.g ≠ row) → Env w' L
  | [], _, _, _ => trivial
  | e :: L, ⟨h1, h2, h3⟩, hg, hne => ⟨(hg.block e.g h1.lt (hne e (List.mem_cons_self ..))).trans h1, h2, Env.grownBy_ h3 hg (fun e' he => hne e' (List.mem_cons_of_mem _ he))⟩
def isIs (lo : Nat) (xs : List Int) : SP := ⟨fun v w => OwnI lo w v xs, fun v w w' h hb => h.to hb⟩
end
end Go.Proofs.Ytddbmckbankmeaa
set_option linter.unusedVariables false
set_option linter.unusedSimpArgs false
namespace Go.Proofs.Ytddbmckbankmeaa
open Go.RowKit
section
variable {W H : Int} {xs : List Int}
theorem cell_of {W H : Int} (hW : 0 < W) (p q : Int) (hH : 0 < H) : ((q % H) * W + p % W) % W = p % W ∧ ((q % H) * W + p % W) / W = q % H :=
  split_mod ⟨Int.emod_nonneg _ (by omega), Int.emod_lt_of_pos _ hW⟩
theorem move_pat {m : Mv} (h : Al W H m) (hl : (xs.length : Int) = W * H) : HF (colF W H xs) (colF W H (apM W H m xs)) m.f m.t.toNat m.x m.y := fun p q => by
  have hW := h.w
  have hH := h.h
  have h1 := Int.emod_nonneg p (show W ≠ 0 by omega)
  have h2 := Int.emod_lt_of_pos p (show 0 < W by omega)
  have h3 := Int.emod_nonneg q (show H ≠ 0 by omega)
  have h4 := Int.emod_lt_of_pos q (show 0 < H by omega)
  have h5 := Int.mul_nonneg h3 (show 0 ≤ W by omega)
  have h6 := Int.mul_le_mul_of_nonneg_right (show q % H ≤ H - 1 by omega) (show 0 ≤ W by omega)
  rw [Int.sub_mul, Int.one_mul, Int.mul_comm H W] at h6
  have e := apM_at h hl (j := (q % H) * W + p % W) ⟨by omega, by omega⟩
  rw [cell_act, (cell_of (show 0 < W by omega) p q (show 0 < H by omega)).1, (cell_of (show 0 < W by omega) p q (show 0 < H by omega)).2] at e
  have e2 : act W H m (p % W, q % H) = act W H m (p, q) := act_mod h (Int.emod_emod_of_dvd _ (Int.dvd_refl _)) (Int.emod_emod_of_dvd _ (Int.dvd_refl _))
  rw [e2] at e
  exact e
theorem kind_move {m : Mv} (h : Al W H m) (hl : (xs.length : Int) = W * H) : kindF (colF W H (apM W H m xs)) = kindF (colF W H xs) := kind_conj (move_pat h hl) (by have := h.t; omega)
theorem getD_app {l r : List Int} {i : Nat} : (l ++ r).getD i 0 = if i < l.length then l.getD i 0 else r.getD (i - l.length) 0 := by
  simp only [List.getD_eq_getElem?_getD, List.getElem?_append]
  split <;> rfl
theorem mod_two {H : Int} (hH : 0 < H) (y : Int) : y % (2 * H) = y % H ∨ y % (2 * H) = y % H + H := by
  have h1 := Int.emod_nonneg y (show 2 * H ≠ 0 by omega)
  have h2 := Int.emod_lt_of_pos y (show 0 < 2 * H by omega)
  have h3 : y % (2 * H) % H = y % H := Int.emod_emod_of_dvd y ⟨2, by omega⟩
  by_cases h4 : y % (2 * H) < H
  · rw [Int.emod_eq_of_lt h1 h4] at h3
    exact .inl h3
  · have h5 : (y % (2 * H) - H) % H = y % H := by rw [Int.sub_emod_right]; exact h3
    rw [Int.emod_eq_of_lt (by omega) (by omega)] at h5
    omega
theorem tall_pat (hW : 0 < W) (hH : 0 < H) (hl : (xs.length : Int) = W * H) : colF W (2 * H) (xs ++ xs) = colF W H xs := by
  funext x y
  unfold colF
  have h1 := Int.emod_nonneg x (show W ≠ 0 by omega)
  have h2 := Int.emod_lt_of_pos x hW
  have h3 := Int.emod_nonneg y (show H ≠ 0 by omega)
  have h4 := Int.emod_lt_of_pos y hH
  have h5 := Int.mul_nonneg h3 (show 0 ≤ W by omega)
  have h6 := Int.mul_le_mul_of_nonneg_right (show y % H ≤ H - 1 by omega) (show 0 ≤ W by omega)
  rw [Int.sub_mul, Int.one_mul, Int.mul_comm H W] at h6
  rw [getD_app]
  rcases mod_two hH y with e | e
  · rw [e, if_pos (by omega)]
  · rw [e, Int.add_mul, Int.mul_comm H W, if_neg (by omega)]
    congr 1
    omega
def row2 (W : Nat) (xs : List Int) (k : Nat) : List Int := (xs.drop (k * W)).take W
def dbl (W : Nat) (xs : List Int) : Nat → List Int
  | 0 => []
  | k + 1 => dbl W xs k ++ row2 W xs k ++ row2 W xs k
theorem row2_length {W H k : Nat} {xs : List Int} (hl : xs.length = W * H) (hk : k < H) : (row2 W xs k).length = W := by
  unfold row2
  rw [List.length_take, List.length_drop, hl]
  have h1 := Nat.mul_le_mul_right W (show k + 1 ≤ H from hk)
  rw [Nat.succ_mul, Nat.mul_comm H W] at h1
  omega
theorem row2_at {W k i : Nat} {xs : List Int} (hi : i < W) : (row2 W xs k).getD i 0 = xs.getD (k * W + i) 0 := by
  unfold row2
  simp only [List.getD_eq_getElem?_getD, List.getElem?_take, List.getElem?_drop, if_pos hi]
theorem dbl_length {W H : Nat} {xs : List Int} (hl : xs.length = W * H) : ∀ k, k ≤ H → (dbl W xs k).length = k * (2 * W)
  | 0, _ => by simp [dbl]
  | k + 1, hk => by
    simp only [dbl, List.length_append, dbl_length hl k (by omega), row2_length hl (show k < H by omega)]
    rw [show (k + 1) * (2 * W) = k * (2 * W) + 2 * W from Nat.succ_mul _ _]
    omega
theorem dbl_at {W H : Nat} {xs : List Int} (hl : xs.length = W * H) (hW : 0 < W) : ∀ k, k ≤ H → ∀ y, y < k → ∀ x, x < 2 * W → (dbl W xs k).getD (y * (2 * W) + x) 0 = xs.getD (y * W + x % W) 0
  | 0, _, y, hy, _, _ => by omega
  | k + 1, hk, y, hy, x, hx => by
    have hlen := dbl_length hl k (by omega)
    have hr := row2_length hl (show k < H by omega)
    simp only [dbl]
    rw [getD_app, getD_app]
    simp only [List.length_append, hlen, hr]
    by_cases hyk : y < k
    · have h1 := Nat.mul_le_mul_right (2 * W) (show y + 1 ≤ k from hyk)
      rw [Nat.succ_mul] at h1
      rw [if_pos (by omega), if_pos (by omega)]
      exact dbl_at hl hW k (by omega) y hyk x hx
    · obtain rfl : y = k := by omega
      by_cases hxw : x < W
      · rw [if_pos (by omega), if_neg (by omega), show y * (2 * W) + x - y * (2 * W) = x by omega, row2_at hxw, Nat.mod_eq_of_lt hxw]
      · rw [if_neg (by omega), show y * (2 * W) + x - (y * (2 * W) + W) = x - W by omega, row2_at (by omega), Nat.mod_eq_sub_mod (by omega), Nat.mod_eq_of_lt (by omega)]
theorem wide_pat {W H : Nat} {xs : List Int} (hW : 0 < W) (hH : 0 < H) (hl : xs.length = W * H) : colF (2 * (W : Int)) H (dbl W xs H) = colF W H xs := by
  funext x y
  unfold colF
  have h1 := Int.emod_nonneg x (show 2 * (W : Int) ≠ 0 by omega)
  have h2 := Int.emod_lt_of_pos x (show 0 < 2 * (W : Int) by omega)
  have h3 := Int.emod_nonneg y (show (H : Int) ≠ 0 by omega)
  have h4 := Int.emod_lt_of_pos y (show 0 < (H : Int) by omega)
  have h7 : x % (2 * (W : Int)) % W = x % W := Int.emod_emod_of_dvd x ⟨2, by omega⟩
  rw [← h7]
  obtain ⟨a, ha⟩ : ∃ a : Nat, x % (2 * (W : Int)) = a := ⟨(x % (2 * (W : Int))).toNat, by omega⟩
  obtain ⟨b, hb⟩ : ∃ b : Nat, y % (H : Int) = b := ⟨(y % (H : Int)).toNat, by omega⟩
  rw [ha] at h1 h2
  rw [hb] at h3 h4
  rw [ha, hb]
  have e := dbl_at hl hW H (Nat.le_refl _) b (by omega) a (by omega)
  rw [show ((b : Int) * (2 * (W : Int)) + (a : Int)).toNat = b * (2 * W) + a by norm_cast, show ((b : Int) * (W : Int) + (a : Int) % (W : Int)).toNat = b * W + a % W by norm_cast]
  exact e
theorem row2_bad {W k : Nat} {xs : List Int} (h : xs.any badc = false) : (row2 W xs k).any badc = false := by
  rw [List.any_eq_false] at h ⊢
  exact fun x hx => h x (List.mem_of_mem_drop (List.mem_of_mem_take hx))
theorem dbl_bad {W : Nat} {xs : List Int} (h : xs.any badc = false) : ∀ k, (dbl W xs k).any badc = false
  | 0 => rfl
  | k + 1 => by simp only [dbl, List.any_append, dbl_bad h k, row2_bad h, Bool.or_false]
theorem valid_bad (h : validB W H xs = true) : xs.any badc = false := by
  unfold validB at h
  simp only [Bool.and_eq_true, Bool.not_eq_true'] at h
  exact h.2.2
theorem valid_mk {W H : Int} {ys : List Int} (hl : (ys.length : Int) = W * H) (hb : ys.any badc = false) : validB W H ys = sizeB W H := by
  unfold validB
  rw [decide_eq_true hl, hb]
  simp
end
theorem Kind_any {W H : Int} {ys : List Int} (hW : 1 ≤ W) (hH : 1 ≤ H) (hl : (ys.length : Int) = W * H) (hb : ys.any badc = false) :
    ∃ (s : Value) (e : Int), ((e = 0 ∧ s = knm (kindF (colF W H ys)) ∧ W ≤ 6 ∧ H ≤ 6) ∨ ((e = 3 ∨ e = 2) ∧ (∃ t, s = .string t) ∧ ¬ (W ≤ 6 ∧ H ≤ 6))) ∧ ∀ (v2 : Value) (w : World), (rdS W H ys).p v2 w → Calls Try.prog 34 #[v2] w (Got w (isP (isV s) (isV (.int .i64 e))).p) := by
  have hv := valid_mk hl hb
  cases hs : sizeB W H
  · rw [hs] at hv
    refine ⟨_, 2, .inr ⟨.inr rfl, ⟨_, rfl⟩, fun h => ?_⟩, fun v2 w h2 => Kind_rd_arg hv h2⟩
    have : sizeB W H = true := by
      unfold sizeB
      simp only [Bool.and_eq_true, decide_eq_true_eq]
      omega
    rw [hs] at this
    cases this
  · rw [hs] at hv
    by_cases h6 : W ≤ 6 ∧ H ≤ 6
    · exact ⟨_, 0, .inl ⟨rfl, rfl, h6.1, h6.2⟩, fun v2 w h2 => Kind_rd_ok hv ⟨hW, h6.1⟩ ⟨hH, h6.2⟩ h2⟩
    · exact ⟨_, 3, .inr ⟨.inl rfl, ⟨_, rfl⟩, h6⟩, fun v2 w h2 => Kind_rd_big hv (by omega) h2⟩
end Go.Proofs.Ytddbmckbankmeaa
set_option linter.unusedVariables false
set_option linter.unusedSimpArgs false
namespace Go.Proofs.Ytddbmckbankmeaa
open Go.RowKit
section
variable {P : Program} {ops : Array Oper} {Q : Exit → Act → World → Prop} {md : Region.Mode}
def KEB (l : List Oper) (n1 : Nat) (KL : List (Nat × Nat)) : Bool := KL.all (fun p => (List.range n1).all (fun i => match l[i]? with | none => true | some o => decide (i = p.2) || o.after.toList.all (fun e => !(Region.binds .any e && decide (e.on = p.1)))))
theorem keb_spec {l : List Oper} {n1 : Nat} {KL : List (Nat × Nat)} (h : KEB l n1 KL = true) : ∀ j m, (j, m) ∈ KL → ∀ i, i < n1 → ∀ o, l[i]? = some o → ∀ e ∈ o.after.toList, Region.binds .any e = true → e.on = j → i = m := by
  intro j m hjm i hi o ho e he hb hon
  have h1 := List.all_eq_true.1 (List.all_eq_true.1 h (j, m) hjm) i (List.mem_range.2 hi)
  rw [ho] at h1
  simp only [Bool.or_eq_true, decide_eq_true_eq] at h1
  rcases h1 with h1 | h1
  · exact h1
  · have h2 := List.all_eq_true.1 h1 e he
    rw [hb, hon] at h2
    simp at h2
theorem wp_region_varm {id : Nat} (n1 : Nat) {l : List Oper} {a0 : Act} {w0 : World} (ds E AL M : List Nat) (KL : List (Nat × Nat)) (T : TypeId) (z : List Value) (V : Nat → Value → World → Prop) (C : Nat → World → Prop)
    (hm : P.follows .mixedOrders = true) (hns : Region.noSelect l.toArray = true) (hB : phaseB l.toArray n1 E = true) (hF : freeB l.toArray E = true) (hD : VarB l n1 ds E AL T a0.tmps.size = true)
    (hCt : ∀ i ∈ E, ∀ j ∈ E, j ∈ edgesOf l.toArray i → ∀ w, C j w) (hC0 : ∀ i ∈ E, ∀ w, Below w0.heap.size w0 w → C i w)
    (hz : ∀ w : World, (Instr.alloc T true (.tuple #[])).run P w = .ok (.pointer (some ⟨w.heap.size, 0, none⟩)) (w.alloc (.cells z.toArray T)))
    (hKA : ∀ j m, (j, m) ∈ KL → AL.contains j = false) (hKE : ∀ j m, (j, m) ∈ KL → ∀ i, i < n1 → ∀ o, l[i]? = some o → ∀ e ∈ o.after.toList, Region.binds .any e = true → e.on = j → i = m) (hME : ∀ i, M.contains i = true → AL.contains i = false)
    (hQ : ∀ d v c a w, Q (.panic c) (a.put d v) w → Q (.panic c) a w)
    (hV : ∀ i v w w', V i v w → Below w.heap.size w w' → V i v w')
    (hop : ∀ i, i < n1 → AL.contains i = false → ∀ a w, Below w0.heap.size w0 w → (∀ t, ds.contains t = false → a.eval (.tmp t) = a0.eval (.tmp t)) → Deps l ds AL V i a w →
      match l[i]? with | none => True | some o => if E.contains i then ∃ v, (∀ w, C i w → (execOp a.eval o).run P w = .ok (.value v) w) ∧ V i v w else if M.contains i then o.wp P a w (fun a' w' => ∃ v, a' = a.put (some (ds.getD i 0)) v ∧ Below w0.heap.size w0 w' ∧ V i v w' ∧ ∀ j, j < n1 → j ≠ i → (j, i) ∉ KL → (∀ o, l[j]? = some o → ∀ e ∈ o.after.toList, Region.binds .any e = true → e.on ≠ i) → ∀ u, (fun i v w => if AL.contains i then ∃ g, v = .pointer (some ⟨g, 0, none⟩) ∧ w0.heap.size ≤ g ∧ Blk w g T z else V i v w : Nat → Value → World → Prop) j u w → (fun i v w => if AL.contains i then ∃ g, v = .pointer (some ⟨g, 0, none⟩) ∧ w0.heap.size ≤ g ∧ Blk w g T z else V i v w : Nat → Value → World → Prop) j u w') Q else o.wp P a w (Post a w (ds.getD i 0) (V i)) Q)
    (hend : ∀ (vs : Nat → Value) (w : World), Below w0.heap.size w0 w → (∀ i, i < n1 → AL.contains i = false → (∀ m, (i, m) ∉ KL) → V i (vs (ds.getD i 0)) w) →
      (∀ i, AL.contains i = true → ∃ g, vs (ds.getD i 0) = .pointer (some ⟨g, 0, none⟩) ∧ w0.heap.size ≤ g ∧ Blk w g T z) → (∀ i j, AL.contains i = true → AL.contains j = true → i ≠ j → vs (ds.getD i 0) ≠ vs (ds.getD j 0)) → wpListS P l.toArray Q E C n1 (l.drop n1) (putAll a0 ds vs) w) :
    (Code.region id l.toArray true).wp P Q a0 w0 := by
  unfold VarB at hD
  simp only [Bool.and_eq_true, decide_eq_true_eq, List.all_eq_true, List.mem_range] at hD
  obtain ⟨⟨⟨⟨⟨⟨hdl, hnl⟩, hdt⟩, hnd⟩, hEE⟩, hAA⟩, hops⟩ := hD
  have hop1 : ∀ i, i < n1 → ∃ o, l[i]? = some o ∧ o.dst = some (ds.getD i 0) ∧ o.guard = none ∧ (AL.contains i = true → o.op = .alloc T) := by
    intro i hi
    have h := hops i hi
    cases ho : l[i]? with
    | none => rw [ho] at h; cases h
    | some o =>
      rw [ho] at h
      simp only [Bool.and_eq_true, decide_eq_true_eq, Bool.or_eq_true, Bool.not_eq_true', Option.isNone_iff_eq_none] at h
      refine ⟨o, rfl, h.1.1, h.1.2, fun hA => ?_⟩
      rcases h.2 with h2 | h2
      · rw [hA] at h2; cases h2
      · revert h2
        cases o.op <;> simp
  have hdi : ∀ i, i < n1 → ds.getD i 0 < a0.tmps.size := by
    intro i hi
    have : ds.getD i 0 ∈ ds := by
      rw [List.getD_eq_getElem?_getD, List.getElem?_eq_getElem (by omega)]
      exact List.getElem_mem _
    exact hdt _ this
  let F : Nat → Value → World → Prop := fun i v w => if AL.contains i then ∃ g, v = .pointer (some ⟨g, 0, none⟩) ∧ w0.heap.size ≤ g ∧ Blk w g T z else V i v w
  have hFs : ∀ i v w w', F i v w → Below w.heap.size w w' → F i v w' := by
    intro i v w w' h hb
    show if _ then _ else _
    have h' : if _ then _ else _ := h
    split at h'
    · next hA =>
      rw [if_pos hA]
      obtain ⟨g, h1, h2, h3⟩ := h'
      exact ⟨g, h1, h2, h3.to hb⟩
    · next hA => rw [if_neg hA]; exact hV _ _ _ _ h' hb
  let I : Array Bool → Act → World → Prop := fun L a w => Below w0.heap.size w0 w ∧ L.size = l.length ∧ a.defers = a0.defers ∧ a.tmps.size = a0.tmps.size ∧ (∀ t, t ∉ ds → a0.tmps[t]? = a.tmps[t]?) ∧
    (∀ i, i < n1 → L.getD i false = true → (∀ m, (i, m) ∈ KL → L.getD m false = false) → F i (a.eval (.tmp (ds.getD i 0))) w) ∧
    (∀ i j, AL.contains i = true → AL.contains j = true → i ≠ j → L.getD i false = true → L.getD j false = true → a.eval (.tmp (ds.getD i 0)) ≠ a.eval (.tmp (ds.getD j 0))) ∧
    (∀ j o, j < n1 → L.getD j false = true → l[j]? = some o → ∀ e ∈ o.after.toList, Region.binds .any e = true → L.getD e.on false = true)
  have hAlt : ∀ i, AL.contains i = true → i < n1 := fun i h => hAA i (by simpa using h)
  have hrf : ∀ L : Array Bool, L.size = l.length → ∀ i, i ∈ Region.ready .any l.toArray L → L.getD i false = false := fun L hs i h => by
    have := ready_get (by simpa using hs) h
    simp only [Array.getElem?_toList] at this
    simp [Array.getD_eq_getD_getElem?, this]
  have key : ∀ L a w i v w', I L a w → i < n1 → Below w0.heap.size w0 w' → (∀ j, j < n1 → j ≠ i → (j, i) ∉ KL → (∀ o, l[j]? = some o → ∀ e ∈ o.after.toList, Region.binds .any e = true → e.on ≠ i) → ∀ u, F j u w → F j u w') → i ∈ Region.ready .any l.toArray L → F i v w' → (AL.contains i = true → ∀ j, AL.contains j = true → i ≠ j → L.getD j false = true → v ≠ a.eval (.tmp (ds.getD j 0))) → I (L.setIfInBounds i true) (a.put (some (ds.getD i 0)) v) w' := by
    intro L a w i v w' ⟨hb, hsz, hdf, hts, hot, hf, hne, hcl⟩ hi hb0 hpres hrdy hv hd
    refine ⟨hb0, by simp [hsz], hdf, by simp [Act.put, hts], fun t ht => ?_, fun j hj hL hkl => ?_, fun j k hj hk hjk hLj hLk => ?_, fun j o hj hLj ho e he hbd => ?_⟩
    · have : ds.getD i 0 ≠ t := fun e => ht (by rw [← e, List.getD_eq_getElem?_getD, List.getElem?_eq_getElem (by omega)]; exact List.getElem_mem _)
      show _ = (a.tmps.setIfInBounds _ _)[t]?
      rw [Array.getElem?_setIfInBounds_ne this]
      exact hot t ht
    · by_cases hij : j = i
      · subst hij
        rw [eval_put_same (by rw [hts]; exact hdi _ hi)]
        exact hv
      · rw [eval_put_other (nodup_ne hnd (by omega) (by omega) (Ne.symm hij))]
        rw [set_getD _ (by omega), if_neg hij] at hL
        refine hpres j hj hij (fun hk => ?_) (fun o ho e he hbd hon => ?_) _ (hf j hj hL (fun m hm => ?_))
        · have h9 := hkl i hk
          rw [set_getD _ (by omega), if_pos rfl] at h9
          cases h9
        · have h9 := hcl j o hj hL ho e he hbd
          rw [hon, hrf L hsz i hrdy] at h9
          cases h9
        · have h9 := hkl m hm
          rw [set_getD _ (by omega)] at h9
          split at h9
          · cases h9
          · exact h9
    · have hjn := hAlt j hj
      have hkn := hAlt k hk
      by_cases hji : j = i
      · subst hji
        rw [eval_put_same (by rw [hts]; exact hdi _ hi), eval_put_other (nodup_ne hnd (by omega) (by omega) hjk)]
        rw [set_getD _ (by omega), if_neg (Ne.symm hjk)] at hLk
        exact hd hj k hk hjk hLk
      · by_cases hki : k = i
        · subst hki
          rw [eval_put_same (by rw [hts]; exact hdi _ hi), eval_put_other (nodup_ne hnd (by omega) (by omega) (Ne.symm hji))]
          rw [set_getD _ (by omega), if_neg hji] at hLj
          exact Ne.symm (hd hk j hj (Ne.symm hjk) hLj)
        · rw [eval_put_other (nodup_ne hnd (by omega) (by omega) (Ne.symm hji)), eval_put_other (nodup_ne hnd (by omega) (by omega) (Ne.symm hki))]
          rw [set_getD _ (by omega), if_neg hji] at hLj
          rw [set_getD _ (by omega), if_neg hki] at hLk
          exact hne j k hj hk hjk hLj hLk
    · obtain ⟨_, o', ho', hall⟩ := mem_ready.1 hrdy
      rw [set_getD _ (by omega)]
      by_cases hei : e.on = i
      · rw [if_pos hei]
      · rw [if_neg hei]
        by_cases hji : j = i
        · subst hji
          have : o' = o := by simpa [ho] using ho'.symm
          subst this
          exact hall e (by simpa using he) hbd
        · rw [set_getD _ (by omega), if_neg hji] at hLj
          exact hcl j o hj hLj ho e he hbd
  have hpre : ∀ L a w i o, I L a w → i < n1 → i ∈ Region.ready .any l.toArray L → l[i]? = some o → (∀ t, ds.contains t = false → a.eval (.tmp t) = a0.eval (.tmp t)) ∧ Deps l ds AL V i a w := by
    intro L a w i o ⟨hb, hsz, hdf, hts, hot, hf, hne, hcl⟩ hi hr ho
    obtain ⟨_, o', ho', hall⟩ := mem_ready.1 hr
    have : o' = o := by simpa [ho] using ho'.symm
    subst this
    refine ⟨fun t ht => ?_, fun j hj => ?_⟩
    · have := hot t (by simpa using ht)
      show a.tmps.getD t undef = a0.tmps.getD t undef
      simp only [Array.getD_eq_getD_getElem?, this]
    · rw [ho] at hj
      simp only [Option.map_some, Option.getD_some, Bool.and_eq_true, Bool.not_eq_true', List.any_eq_true, decide_eq_true_eq] at hj
      obtain ⟨⟨e, he, hbd, heq⟩, hA⟩ := hj
      have hj1 : j < i := by rw [← heq]; exact (phaseB_back hB ho').1 e (by simpa using he) hbd
      have h1 := hf j (by omega) (by rw [← heq]; exact hall e (by simpa using he) hbd) (fun m hm => by rw [← hKE j m hm i hi o' ho e he hbd heq]; exact hrf L hsz i hr)
      have h2 : if AL.contains j then _ else _ := h1
      rw [if_neg (by rw [hA]; simp)] at h2
      exact h2
  refine wp_region_phase (n1 := n1) E C hm hns hB hF (fun i hi => by have := hEE i hi; simp at this; exact this.1) hCt hnl hQ I ?_ (fun L a w h i hi => hC0 i hi w h.1) ?_ ?_ ?_
  · refine ⟨below_drew (Below.refl _ _), by simp, rfl, rfl, fun _ _ => rfl, fun i hi hL _ => ?_, fun i j _ _ _ hL _ => ?_, fun j o _ hL => ?_⟩
    · rw [rep_getD] at hL; cases hL
    · rw [rep_getD] at hL; cases hL
    · rw [rep_getD] at hL; cases hL
  · intro L a w i o hI hi hr ho
    have hEi := hEE i hi
    simp only [Bool.and_eq_true, decide_eq_true_eq, Bool.not_eq_true'] at hEi
    obtain ⟨h1, h2⟩ := hpre L a w i o hI hEi.1 hr ho
    have h3 := hop i hEi.1 hEi.2 a w hI.1 h1 h2
    rw [ho] at h3
    simp only at h3
    rw [if_pos (by simpa using hi)] at h3
    obtain ⟨v, hy, hv⟩ := h3
    obtain ⟨o', ho', hdst, hg, _⟩ := hop1 i hEi.1
    have : o' = o := by rw [ho] at ho'; exact (Option.some.inj ho').symm
    subst this
    refine ⟨v, .inl ⟨by simp [Region.wanted, hg], hy⟩, ?_⟩
    rw [hdst]
    exact key L a w i v w hI hEi.1 hI.1 (fun _ _ _ _ _ _ hu => hu) hr (by show if _ then _ else _; rw [if_neg (by rw [hEi.2]; simp)]; exact hv) (fun h => by rw [hEi.2] at h; cases h)
  · intro L a w i hI hi hE hr
    obtain ⟨o, ho, hdst, hg, hal⟩ := hop1 i hi
    obtain ⟨h1, h2⟩ := hpre L a w i o hI hi hr ho
    unfold wpOp
    have ho2 : l.toArray[i]? = some o := by simpa using ho
    rw [ho2]
    simp only
    rw [if_pos (by simp [Region.wanted, hg])]
    refine .inl ?_
    by_cases hA : AL.contains i = true
    · unfold Oper.wp execOp
      simp only [hal hA, Sem.run_bind, hz, Result.andThen_ok, Sem.run_pure, Oper.upon, hdst]
      refine key L a w i _ _ hI hi (below_then hI.1 hI.1.size (below_alloc (Below.refl _ _) _)) (fun j _ _ _ _ u hu => hFs j u _ _ hu (below_alloc (Below.refl _ _) _)) hr ?_ ?_
      · show if _ then _ else _
        rw [if_pos hA]
        exact ⟨_, rfl, hI.1.size, heap_alloc_new _ _⟩
      · intro _ j hj hij hL
        have h3 : if AL.contains j then _ else _ := hI.2.2.2.2.2.1 j (hAlt j hj) hL (fun m hm => by rw [hKA j m hm] at hj; cases hj)
        rw [if_pos hj] at h3
        obtain ⟨g, hg1, _, hg2⟩ := h3
        rw [hg1]
        intro he
        have := hg2.lt
        injection he with he
        injection he with he
        injection he with he
        omega
    · have hA' : AL.contains i = false := by simpa using hA
      have h3 := hop i hi hA' a w hI.1 h1 h2
      rw [ho] at h3
      simp only at h3
      rw [if_neg (by simpa using hE)] at h3
      by_cases hM : M.contains i = true
      · rw [if_pos hM] at h3
        refine Oper.wp_mono (fun a' w' h => ?_) h3
        obtain ⟨v, rfl, hb0, hv, hpres⟩ := h
        exact key L a w i v w' hI hi hb0 hpres hr (by show if _ then _ else _; rw [if_neg hA]; exact hv) (fun h => absurd h hA)
      rw [if_neg hM] at h3
      refine Oper.wp_mono (fun a' w' h => ?_) h3
      obtain ⟨v, rfl, hb', hv⟩ := h
      exact key L a w i v w' hI hi (below_then hI.1 hI.1.size hb') (fun j _ _ _ _ u hu => hFs j u _ _ hu hb') hr (by show if _ then _ else _; rw [if_neg hA]; exact hv) (fun h => absurd h hA)
  · intro L a w hI hall
    obtain ⟨hb, hsz, hdf, hts, hot, hf, hne, hcl⟩ := hI
    have he := putAll_eq (a := a) ds a0 hdf.symm hts.symm (fun d hd => by rw [hts]; exact hdt d hd) hot
    rw [← he]
    refine hend (fun t => a.eval (.tmp t)) w hb (fun i hi hA hK => ?_) (fun i hA => ?_) (fun i j hi hj hij => hne i j hi hj hij (hall i (hAlt i hi)) (hall j (hAlt j hj)))
    · have h3 : if AL.contains i then _ else _ := hf i hi (hall i hi) (fun m hm => absurd hm (hK m))
      rw [if_neg (by rw [hA]; simp)] at h3
      exact h3
    · have h3 : if AL.contains i then _ else _ := hf i (hAlt i hA) (hall i (hAlt i hA)) (fun m hm => by rw [hKA i m hm] at hA; cases hA)
      rw [if_pos hA] at h3
      exact h3
end
section
variable {Q : Exit → Act → World → Prop} {id : Nat} {l : List Oper} {a0 : Act} {w0 : World}
def FV (AL : List Nat) (T : TypeId) (z : List Value) (B : Nat) (Vs : List SP) (i : Nat) (v : Value) (w : World) : Prop := if AL.contains i then ∃ g, v = .pointer (some ⟨g, 0, none⟩) ∧ B ≤ g ∧ Blk w g T z else vp Vs i v w
theorem wp_region_vm (n1 : Nat) (ds E AL M : List Nat) (KL : List (Nat × Nat)) (T : TypeId) (z : List Value) (Vs : List SP)
    (hns : Region.noSelect l.toArray = true) (hB : phaseB l.toArray n1 E = true) (hF : freeB l.toArray E = true) (hD : VarB l n1 ds E AL T a0.tmps.size = true)
    (hz : ∀ w : World, (Instr.alloc T true (.tuple #[])).run Try.prog w = .ok (.pointer (some ⟨w.heap.size, 0, none⟩)) (w.alloc (.cells z.toArray T)))
    (hKA : ∀ j m, (j, m) ∈ KL → AL.contains j = false) (hKE : ∀ j m, (j, m) ∈ KL → ∀ i, i < n1 → ∀ o, l[i]? = some o → ∀ e ∈ o.after.toList, Region.binds .any e = true → e.on = j → i = m) (hME : ∀ i, M.contains i = true → AL.contains i = false)
    (hQ : ∀ d v c a w, Q (.panic c) (a.put d v) w → Q (.panic c) a w)
    (hop : ∀ i, i < n1 → AL.contains i = false → ∀ a w, Below w0.heap.size w0 w → (∀ t, ds.contains t = false → a.eval (.tmp t) = a0.eval (.tmp t)) → Deps l ds AL (vp Vs) i a w →
      match l[i]? with | none => True | some o => if E.contains i then ∃ v, (∀ w, (execOp a.eval o).run Try.prog w = .ok (.value v) w) ∧ vp Vs i v w else if M.contains i then o.wp Try.prog a w (fun a' w' => ∃ v, a' = a.put (some (ds.getD i 0)) v ∧ Below w0.heap.size w0 w' ∧ vp Vs i v w' ∧ ∀ j, j < n1 → j ≠ i → (j, i) ∉ KL → (∀ o, l[j]? = some o → ∀ e ∈ o.after.toList, Region.binds .any e = true → e.on ≠ i) → ∀ u, FV AL T z w0.heap.size Vs j u w → FV AL T z w0.heap.size Vs j u w') Q else o.wp Try.prog a w (Post a w (ds.getD i 0) (vp Vs i)) Q)
    (hend : ∀ (vs : Nat → Value) (w : World), Below w0.heap.size w0 w → (∀ i, i < n1 → AL.contains i = false → (∀ m, (i, m) ∉ KL) → vp Vs i (vs (ds.getD i 0)) w) →
      (∀ i, AL.contains i = true → ∃ g, vs (ds.getD i 0) = .pointer (some ⟨g, 0, none⟩) ∧ w0.heap.size ≤ g ∧ Blk w g T z) → (∀ i j, AL.contains i = true → AL.contains j = true → i ≠ j → vs (ds.getD i 0) ≠ vs (ds.getD j 0)) → wpList Try.prog l.toArray Q (l.drop n1) (putAll a0 ds vs) w) :
    (Code.region id l.toArray true).wp Try.prog Q a0 w0 := by
  refine wp_region_varm n1 ds E AL M KL T z (vp Vs) (fun _ _ => True) mixed_ hns hB hF hD (fun _ _ _ _ _ _ => trivial) (fun _ _ _ _ => trivial) hz hKA hKE hME hQ (fun i v w w' h hb => (Vs.getD i SP.any).st v w w' h hb) ?_ (fun vs w h1 h2 h3 h4 => wpListS_plain _ _ _ _ (fun _ _ _ => trivial) (hend vs w h1 h2 h3 h4))
  intro i hi hA a w hb hs hd
  have h := hop i hi hA a w hb hs hd
  cases ho : l[i]? with
  | none => trivial
  | some o =>
    rw [ho] at h
    simp only at h ⊢
    split at h
    · next h1 =>
      rw [if_pos h1]
      obtain ⟨v, h2, h3⟩ := h
      exact ⟨v, fun w _ => h2 w, h3⟩
    · next h1 =>
      rw [if_neg h1]
      exact h
end
end Go.Proofs.Ytddbmckbankmeaa
