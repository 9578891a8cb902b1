/- Part 12 of the texts behind this claim. -/
import Derived.Test.YtddbmckbankmeaaKq10
import Derived.Test.YtddbmckbankmeaaKq11
set_option linter.unusedVariables false
set_option linter.unusedSimpArgs false
namespace Go.Proofs.Ytddbmckbankmeaa
open Go.RowKit
theorem Env.putBs {w : World} {L : List Ent} {g j : Nat} {bs : List Bool} {rest : List Value} {b : Bool} (k : Env w L) (i : Nat) (hi : L[i]? = some ⟨g, 4, bools bs ++ rest⟩) (hj : j < bs.length) : Env (putL w g j [.bool b]) (L.set i ⟨g, 4, bools (bs.set j b) ++ rest⟩) := by
  have h := k.putO (o := j) (v := .bool b) i hi
  rwa [List.set_append_left _ _ (by unfold bools; rw [List.length_map]; exact hj), show (bools bs).set j (.bool b) = bools (bs.set j b) from by unfold bools; rw [List.map_set]] at h
theorem make_exec {o : Oper} {a : Act} {x y : Operand} {n : Nat} (hn : n ≤ 17592186044416) (ho : o.op = .makeSlice 101 x y) (hx : a.eval x = .int .i64 (n : Int)) (hy : a.eval y = .int .i64 (n : Int)) (w : World) :
    (execOp a.eval o).run Try.prog w = .ok (.value (.slice (some ⟨w.heap.size, 0, none⟩) n n)) (w.alloc (.cells (bools (List.replicate n false)).toArray 4)) := by
  unfold execOp
  simp only [ho, hx, hy, Sem.run_bind, make_bools n hn, Result.andThen_ok, Sem.run_pure]
theorem getD_set {bs : List Bool} {i j : Nat} {b : Bool} (hi : i < bs.length) : (bs.set i b).getD j false = if i = j then b else bs.getD j false := by
  rw [List.getD_eq_getElem?_getD, List.getD_eq_getElem?_getD, List.getElem?_set]
  split
  · next h =>
    subst h
    simp [hi]
  · rfl
theorem idx_ok {n x y : Int} (hx : 0 ≤ x ∧ x < n) (hy : 0 ≤ y ∧ y < n) : (0 ≤ x * n ∧ x * n ≤ n * n) ∧ 0 ≤ x * n + y ∧ x * n + y < n * n := by
  have h1 := Int.mul_nonneg hx.1 (show 0 ≤ n by omega)
  have h2 := Int.mul_le_mul_of_nonneg_right (show x ≤ n - 1 by omega) (show 0 ≤ n by omega)
  rw [Int.sub_mul, Int.one_mul] at h2
  omega
def SymL (f : Int → Int → Int) (g : Bool) (k : Nat) (n : Int) (bs : List Bool) (x y : Nat) : Prop :=
  (bs.length : Int) = n * n ∧ ∀ p q : Int, 0 ≤ p → p < n → 0 ≤ q → q < n → (p < x ∨ (p = x ∧ q < y)) → bs.getD (p * n + q).toNat false = bP (Sym f g k p q)
section
variable {f : Int → Int → Int} {g : Bool} {k : Nat} {n : Int} {bs : List Bool} {x y : Nat}
theorem SymL.start {N : Nat} (h : n * n = (N : Int)) : SymL f g k n (List.replicate N false) 0 0 := ⟨by rw [List.length_replicate, h], fun p q h1 h2 h3 h4 h5 => by omega⟩
theorem SymL.cell (h : SymL f g k n bs x y) (hx : (x : Int) < n) (hy : (y : Int) < n) : SymL f g k n (bs.set ((x : Int) * n + (y : Int)).toNat (bP (Sym f g k x y))) x (y + 1) := by
  obtain ⟨hl, h⟩ := h
  have hi := idx_ok (n := n) (x := x) (y := y) (by omega) (by omega)
  refine ⟨by rw [List.length_set, hl], fun p q h1 h2 h3 h4 h5 => ?_⟩
  have hj := idx_ok (n := n) (x := p) (y := q) (by omega) (by omega)
  rw [getD_set (by omega)]
  split
  · next e =>
    have := num_digits (H := n) (W := n) (a := p) (b := x) (x := q) (y := y) (by omega) (by omega) (by omega)
    rw [this.1, this.2]
  · next e => exact h p q h1 h2 h3 h4 (by
      by_cases e2 : p = x ∧ q = y
      · rw [e2.1, e2.2] at e
        exact absurd rfl e
      · omega)
theorem SymL.row (h : SymL f g k n bs x y) (he : n ≤ y) : SymL f g k n bs (x + 1) 0 := ⟨h.1, fun p q h1 h2 h3 h4 h5 => h.2 p q h1 h2 h3 h4 (by omega)⟩
theorem SymL.at_ (h : SymL f g k n bs x y) {p q : Int} (hp : 0 ≤ p ∧ p < n) (hq : 0 ≤ q ∧ q < n) (hx : p < x ∨ (p = x ∧ q < y)) : bs.getD (p * n + q).toNat false = bP (Sym f g k p q) := h.2 p q hp.1 hp.2 hq.1 hq.2 hx
def Em (f : Int → Int → Int) (g : Bool) (k : Nat) (n : Int) (e : Bool) (x y : Nat) : Prop := e = true ↔ NoR f g k n x y
theorem Em.start : Em f g k n true 0 0 := ⟨fun _ => NoR.start, fun _ => rfl⟩
theorem Em.cell {e : Bool} (h : Em f g k n e x y) (hy : (y : Int) < n) : Em f g k n (e && !bP (Sym f g k x y)) x (y + 1) := by
  unfold Em at h ⊢
  rw [Bool.and_eq_true, h, bP_not, bP_true]
  exact ⟨fun ⟨h1, h2⟩ => h1.cell h2, fun h1 => ⟨fun p q a1 a2 a3 a4 => h1 p q a1 a2 a3 (by omega), h1 x y (by omega) (by omega) hy (by omega)⟩⟩
theorem Em.row {e : Bool} (h : Em f g k n e x y) (he : n ≤ y) : Em f g k n e (x + 1) 0 := by
  unfold Em at h ⊢
  rw [h]
  exact ⟨fun h1 => h1.row he, fun h1 p q a1 a2 a3 a4 => h1 p q a1 a2 a3 (by omega)⟩
theorem Em.all {e : Bool} (h : Em f g k n e x 0) (he : n ≤ x) (hn : 0 < n) (hp : Per n f) : e = bP (¬ Ex f g k) :=
  bP_of ⟨fun h1 => (h.1 h1).all he hn hp, fun h1 => h.2 (fun p q _ _ _ _ hs => h1 ⟨p, q, hs⟩)⟩
theorem sym_mod (hp : Per n f) (a b : Int) : Sym f g k (a % n) (b % n) ↔ Sym f g k a b := by
  have e1 := Int.emod_add_mul_ediv a n
  have e2 := Int.emod_add_mul_ediv b n
  constructor
  · intro h
    have := h.shift hp (a / n) (b / n)
    rwa [e1, e2] at this
  · intro h
    have := h.shift hp (-(a / n)) (-(b / n))
    rwa [show a + n * -(a / n) = a % n by rw [Int.mul_neg]; omega, show b + n * -(b / n) = b % n by rw [Int.mul_neg]; omega] at this
end
def Mk (f : Int → Int → Int) (k : Nat) (n : Int) (Z : Int → Prop) (bs : List Bool) (a b : Int) : Prop :=
  (bs.length : Int) = 2 * n ∧ ∀ i : Int, 0 ≤ i → i < 2 * n → (bs.getD i.toNat false = true ↔ ∃ p q, Win2 n p q ∧ (p < a ∨ (p = a ∧ q < b)) ∧ Sym f true k p q ∧ axi k p q = i ∧ Z (far k p q))
section
variable {f : Int → Int → Int} {k : Nat} {n a b : Int} {Z : Int → Prop} {bs : List Bool}
theorem Mk.start {N : Nat} (h : 2 * n = (N : Int)) : Mk f k n Z (List.replicate N false) (-2 * n) (-2 * n) := ⟨by rw [List.length_replicate, h], fun i h1 h2 => ⟨fun h3 => by
    rw [List.getD_eq_getElem?_getD, List.getElem?_replicate] at h3
    split at h3 <;> simp at h3, fun ⟨p, q, hw, h3, _⟩ => by unfold Win2 at hw; omega⟩⟩
theorem Mk.skip (h : Mk f k n Z bs a b) (hno : ¬ (Sym f true k a b ∧ (0 ≤ axi k a b ∧ axi k a b < 2 * n) ∧ Z (far k a b))) : Mk f k n Z bs a (b + 1) := ⟨h.1, fun i h1 h2 => by
  rw [h.2 i h1 h2]
  constructor
  · rintro ⟨p, q, hw, h3, h4⟩
    exact ⟨p, q, hw, by omega, h4⟩
  · rintro ⟨p, q, hw, h3, h4, h5, h6⟩
    refine ⟨p, q, hw, ?_, h4, h5, h6⟩
    by_cases e : p = a ∧ q = b
    · obtain ⟨rfl, rfl⟩ := e
      exact absurd ⟨h4, by omega, h6⟩ hno
    · omega⟩
theorem Mk.hit (h : Mk f k n Z bs a b) (hw : Win2 n a b) (hs : Sym f true k a b) (hz : Z (far k a b)) (hi : 0 ≤ axi k a b ∧ axi k a b < 2 * n) : Mk f k n Z (bs.set (axi k a b).toNat true) a (b + 1) := by
  obtain ⟨hl, h⟩ := h
  refine ⟨by rw [List.length_set, hl], fun i h1 h2 => ?_⟩
  rw [getD_set (by omega)]
  split
  · next e =>
    have e2 : axi k a b = i := by omega
    exact ⟨fun _ => ⟨a, b, hw, by omega, hs, e2, hz⟩, fun _ => rfl⟩
  · next e =>
    rw [h i h1 h2]
    constructor
    · rintro ⟨p, q, hw, h3, h4⟩
      exact ⟨p, q, hw, by omega, h4⟩
    · rintro ⟨p, q, hw, h3, h4, h5, h6⟩
      refine ⟨p, q, hw, ?_, h4, h5, h6⟩
      by_cases e2 : p = a ∧ q = b
      · obtain ⟨rfl, rfl⟩ := e2
        exact absurd (by rw [h5]) e
      · omega
theorem Mk.row (h : Mk f k n Z bs a b) (hb : 2 * n ≤ b) : Mk f k n Z bs (a + 1) (-2 * n) := ⟨h.1, fun i h1 h2 => by
  rw [h.2 i h1 h2]
  constructor
  · rintro ⟨p, q, hw, h3, h4⟩
    exact ⟨p, q, hw, by omega, h4⟩
  · rintro ⟨p, q, hw, h3, h4⟩
    refine ⟨p, q, hw, ?_, h4⟩
    unfold Win2 at hw
    omega⟩
theorem Mk.all (h : Mk f k n Z bs a b) (ha : 2 * n ≤ a) {i : Int} (h1 : 0 ≤ i) (h2 : i < 2 * n) : bs.getD i.toNat false = true ↔ ∃ p q, Win2 n p q ∧ Sym f true k p q ∧ axi k p q = i ∧ Z (far k p q) := by
  rw [h.2 i h1 h2]
  constructor
  · rintro ⟨p, q, hw, h3, h4⟩
    exact ⟨p, q, hw, h4⟩
  · rintro ⟨p, q, hw, h4⟩
    refine ⟨p, q, hw, ?_, h4⟩
    unfold Win2 at hw
    omega
end
def Met (P : Nat → Prop) (m : Bool) (i : Nat) : Prop := m = true ↔ ∃ j, j < i ∧ P j
section
variable {P : Nat → Prop} {m : Bool} {i : Nat}
theorem Met.start : Met P false 0 := ⟨fun h => (by cases h), fun ⟨j, hj, _⟩ => (by omega)⟩
theorem Met.yes (h : P i) : Met P true (i + 1) := ⟨fun _ => ⟨i, by omega, h⟩, fun _ => rfl⟩
theorem Met.keep (h : Met P true i) : Met P true (i + 1) := ⟨fun _ => let ⟨j, h1, h2⟩ := h.1 rfl; ⟨j, by omega, h2⟩, fun _ => rfl⟩
theorem Met.no (h : Met P false i) (hn : ¬ P i) : Met P false (i + 1) := by
  refine ⟨fun h => (by cases h), ?_⟩
  rintro ⟨j, h1, h2⟩
  by_cases e : j = i
  · rw [e] at h2
    exact absurd h2 hn
  · exact h.2 ⟨j, by omega, h2⟩
theorem Met.or_ {b : Bool} (h : Met P false i) (hb : b = true ↔ P i) : Met P b (i + 1) := by
  cases b
  · exact h.no (fun hp => by have := hb.2 hp; cases this)
  · exact Met.yes (hb.1 rfl)
end
theorem mir_of {f : Int → Int → Int} {k : Nat} {n : Int} {bm : List Bool} {m : Bool} {N : Nat} (hn : 0 < n) (hp : Per n f) (hk : k < 4) (hN : 2 * n = (N : Int)) (hb : ∀ i : Int, 0 ≤ i → i < 2 * n → (bm.getD i.toNat false = true ↔ MirR n f k i)) (h : Met (fun j => bm.getD j false = true) m N) : m = bP (Mir f k) := by
  refine bP_of ?_
  unfold Met at h
  rw [h, ← mirR_iff hn hp hk]
  constructor
  · rintro ⟨j, hj, h2⟩
    exact ⟨(j : Int), by omega, (hb j (by omega) (by omega)).1 (by simpa using h2)⟩
  · rintro ⟨i, hi, h2⟩
    exact ⟨i.toNat, by omega, (hb i hi.1 hi.2).2 h2⟩
theorem cen_of {f : Int → Int → Int} {k : Nat} {n : Int} {bm bg : List Bool} {m c : Bool} {N : Nat} (hn : 0 < n) (hp : Per n f) (hk : k < 4) (hN : 2 * n = (N : Int)) (hb : ∀ i : Int, 0 ≤ i → i < 2 * n → (bm.getD i.toNat false = true ↔ MirR n f k i)) (hg : ∀ i : Int, 0 ≤ i → i < 2 * n → (bg.getD i.toNat false = true ↔ GliR n f k i))
    (hm : m = bP (Mir f k)) (h : Met (fun j => m = true ∧ bg.getD j false = true ∧ bm.getD j false = false) c N) : c = bP (Mir f k ∧ Cen f k) := by
  refine bP_of ?_
  unfold Met at h
  rw [h, ← cenR_iff hn hp hk]
  constructor
  · rintro ⟨j, hj, h1, h2, h3⟩
    rw [hm, bP_true] at h1
    refine ⟨h1, (j : Int), by omega, (hg j (by omega) (by omega)).1 (by simpa using h2), fun h4 => ?_⟩
    have := (hb j (by omega) (by omega)).2 h4
    rw [Int.toNat_natCast, h3] at this
    cases this
  · rintro ⟨h1, i, hi, h2, h3⟩
    refine ⟨i.toNat, by omega, by rw [hm, bP_true]; exact h1, (hg i hi.1 hi.2).2 h2, ?_⟩
    cases h4 : bm.getD i.toNat false
    · rfl
    · exact absurd ((hb i hi.1 hi.2).1 h4) h3
theorem op_lenBl {Q : Exit → Act → World → Prop} {o : Oper} {a : Act} {w : World} {d n k : Nat} {x : Operand} {A : Option Addr} (ho : o.op = .call { callee := .builtin .len, args := #[x], argTypes := #[101] }) (hd : o.dst = some d) (hx : a.eval x = .slice A n k) : o.wp Try.prog a w (Post a w d (isV (.int .i64 (n : Int))).p) Q := by
  refine op_run (v := .int .i64 (n : Int)) hd ?_ rfl
  generalize a.eval = ev at hx ⊢
  unfold execOp
  simp only [ho]
  simp [go_sem, hx]
set_option maxRecDepth 100000 in
set_option maxHeartbeats 1000000 in
theorem rclass_got (Wd Ht : Int) (ad : Addr) (k : Nat) (xs : List Int) (T : Nat) (hW : 1 ≤ Wd ∧ Wd ≤ 6) (hH : 1 ≤ Ht ∧ Ht ≤ 6) (w : World) (hri : RI w (some ad) xs) (hl : (xs.length : Int) = Wd * Ht) (hT : T < 4) :
    Calls Try.prog 69 #[.agg #[.int .i64 Wd, .int .i64 Ht, .slice (some ad) xs.length k], .agg #[.int .i64 ((lin true T).a), .int .i64 ((lin true T).b), .int .i64 ((lin true T).c), .int .i64 ((lin true T).d)]] w (Got w (isV (.agg #[.bool (bP (¬ Ex (colF Wd Ht xs) true T)), .bool (bP (Mir (colF Wd Ht xs) T)), .bool (bP (Mir (colF Wd Ht xs) T ∧ Cen (colF Wd Ht xs) T))])).p) := by
  have HL := Hd.mk hl
  have HT4 := Hd.mk hT
  have HRI := Hd.mk hri
  clear hri
  have HW := Hd.mk hW
  have HH := Hd.mk hH
  have hwh := mul_b (a := Wd) (b := Ht) (A := 6) (B := 6) (by omega) (by omega)
  have hpn := perN_eq hW hH
  have HPER := Hd.mk (per_of (xs := xs) hpn.2.1 hpn.2.2)
  obtain ⟨n, hn⟩ : ∃ n, n = perN Wd Ht := ⟨_, rfl⟩
  rw [← hn] at hpn HPER
  have HN : Hd (perN Wd Ht = n) := ⟨hn.symm⟩
  obtain ⟨hn1, hn2, hn3⟩ := hpn
  clear hn hn2 hn3
  have hnn := mul_b (a := n) (b := n) (A := 30) (B := 30) (by omega) (by omega)
  obtain ⟨N2, hN2⟩ : ∃ N : Nat, n * n = (N : Int) := ⟨(n * n).toNat, by omega⟩
  obtain ⟨N1, hN1⟩ : ∃ N : Nat, 2 * n = (N : Int) := ⟨(2 * n).toNat, by omega⟩
  have hN1b : N1 ≤ 60 := by omega
  have HN1 := Hd.mk hN1
  have HN2 := Hd.mk hN2
  clear hN1 hN2
  go_enter Try.func69, Try.ntmps69
  go_upto_region 1 with fail
  obtain ⟨W0, hW0⟩ : ∃ W : World, W = ((w.alloc (.cells #[.int .i64 Wd, .int .i64 Ht, .slice (some ad) xs.length k] 24)).alloc (.cells #[.int .i64 ((lin true T).a), .int .i64 ((lin true T).b), .int .i64 ((lin true T).c), .int .i64 ((lin true T).d)] 95)).alloc (.cells #[.bool false, .bool false, .bool false] 112) := ⟨_, rfl⟩
  rw [← hW0]
  obtain ⟨he, hb⟩ := env_three hW0
  have HE := Hd.mk he
  have HB := Hd.mk hb
  clear he hb hW0
  refine wp_region_vd 2 [18, 19] [] [] 84 [.int .i64 0, .int .i64 0] [isV (.agg #[.int .i64 Wd, .int .i64 Ht, .slice (some ad) xs.length k]), isV (.int .i64 n)] (by rfl) alloc_Z ?_ ?_
  · intro qi qh qA aa wx hb hs hd
    match qi, qh, qA with
    | 0, _, _ => exact .inl ⟨rfl, op_ldU rfl rfl (hs 2 rfl) ((HE.out.to hb).get 0 rfl)⟩
    | 1, _, _ => exact .inl ⟨rfl, wp_b (int_eq HN.out) (op_call1 rfl rfl Try.call85 (by rw [(show aa.eval (.tmp 18) = .agg #[.int .i64 Wd, .int .i64 Ht, .slice (some ad) xs.length k] from (hd 0 rfl))]; exact period_got Wd Ht (some ad) k xs HW.out HH.out _))⟩
    | qi + 2, h, _ => omega
  · intro vs X1 hb hv hal hne
    have HL0 := Hd.mk (HE.out.lt)
    have HBW := HB
    replace HB := Hd.mk (bel_then HB.out hb)
    replace HE : Hd (Env X1 [⟨w.heap.size, 24, [.int .i64 Wd, .int .i64 Ht, .slice (some ad) xs.length k]⟩, ⟨w.heap.size + 1, 95, [.int .i64 ((lin true T).a), .int .i64 ((lin true T).b), .int .i64 ((lin true T).c), .int .i64 ((lin true T).d)]⟩, ⟨w.heap.size + 1 + 1, 112, [.bool false, .bool false, .bool false]⟩]) := ⟨HE.out.to hb⟩
    have HLS := HL0
    have e19 : vs 19 = .int .i64 n := hv 1 (by decide) rfl
    simp only [putAll, List.foldl_cons, List.foldl_nil, Act.put, List.setIfInBounds_toArray, List.set_cons_succ, List.set_cons_zero, List.drop_succ_cons, List.drop_zero, e19]
    generalize vs 18 = s18
    clear hv hal hne hb HL0 HBW HLS e19
    go_upto_region 2 with fail
    refine wp_region_vd 4 [20, 21, 22, 23] [0, 1, 2] [] 84 [.int .i64 0, .int .i64 0] [isV (.int .i64 n), isV (.int .i64 n), isV (.int .i64 (((N2 : Nat) : Int))), isBs X1.heap.size (List.replicate N2 false)] (by rfl) alloc_Z ?_ ?_
    · intro qi qh qA aa wx hb hs hd
      match qi, qh, qA with
      | 0, _, _ => exact .inl ⟨rfl, op_mv rfl (hs 5 rfl)⟩
      | 1, _, _ => exact .inl ⟨rfl, op_mv rfl (hs 5 rfl)⟩
      | 2, _, _ => exact .inl ⟨rfl, pure_b (int_eq HN2.out) (⟨_, op_mul (by unfold Fit; omega) rfl (hd 0 rfl) (hd 1 rfl), rfl⟩)⟩
      | 3, _, _ => exact .inl ⟨rfl, op_makeB (by have h0 := HN2.out; omega) rfl rfl (hd 2 rfl) (hd 2 rfl) _ hb.size⟩
      | qi + 4, h, _ => omega
    · intro vs X2 hb hv hal hne
      have HL0 := Hd.mk (HE.out.lt)
      have HBW := HB
      replace HB := Hd.mk (bel_then HB.out hb)
      replace HE : Hd (Env X2 [⟨w.heap.size, 24, [.int .i64 Wd, .int .i64 Ht, .slice (some ad) xs.length k]⟩, ⟨w.heap.size + 1, 95, [.int .i64 ((lin true T).a), .int .i64 ((lin true T).b), .int .i64 ((lin true T).c), .int .i64 ((lin true T).d)]⟩, ⟨w.heap.size + 1 + 1, 112, [.bool false, .bool false, .bool false]⟩]) := ⟨HE.out.to hb⟩
      have HLS := HL0
      obtain ⟨g23, e23, l23, rest23, b23⟩ : ∃ g, vs 23 = .slice (some ⟨g, 0, none⟩) (List.replicate N2 false).length (List.replicate N2 false).length ∧ X1.heap.size ≤ g ∧ ∃ rest, Blk X2 g 4 (bools (List.replicate N2 false) ++ rest) := hv 3 (by decide) rfl
      rw [List.length_replicate] at e23
      replace HE : Hd (Env X2 [⟨w.heap.size, 24, [.int .i64 Wd, .int .i64 Ht, .slice (some ad) xs.length k]⟩, ⟨w.heap.size + 1, 95, [.int .i64 ((lin true T).a), .int .i64 ((lin true T).b), .int .i64 ((lin true T).c), .int .i64 ((lin true T).d)]⟩, ⟨w.heap.size + 1 + 1, 112, [.bool false, .bool false, .bool false]⟩, ⟨g23, 4, bools (List.replicate N2 false) ++ rest23⟩]) := ⟨Env.addne (e := ⟨g23, 4, bools (List.replicate N2 false) ++ rest23⟩) HE.out b23 (fun e' he => Nat.ne_of_lt (Nat.lt_of_lt_of_le (HL0.out e' he) l23))⟩
      have G23 : Hd (w.heap.size ≤ g23) := ⟨Nat.le_trans HBW.out.size l23⟩
      simp only [putAll, List.foldl_cons, List.foldl_nil, Act.put, List.setIfInBounds_toArray, List.set_cons_succ, List.set_cons_zero, List.drop_succ_cons, List.drop_zero, e23]
      generalize vs 20 = s20
      generalize vs 21 = s21
      generalize vs 22 = s22
      clear hv hal hne hb HL0 HBW HLS e23 l23 b23
      go_upto_region 3 with fail
      refine wp_region_vd 2 [24, 7] [0] [1] 112 [.bool false, .bool false, .bool false] [isV (.agg #[.bool true, .bool false, .bool false]), SP.any] (by rfl) alloc_D ?_ ?_
      · intro qi qh qA aa wx hb hs hd
        match qi, qh, qA with
        | 0, _, _ => exact .inl ⟨rfl, ⟨_, op_buD0 rfl rfl, rfl⟩⟩
        | 1, _, h => cases h
        | qi + 2, h, _ => omega
      · intro vs X3 hb hv hal hne
        have HL0 := Hd.mk (HE.out.lt)
        have HBW := HB
        replace HB := Hd.mk (bel_then HB.out hb)
        replace HE : Hd (Env X3 [⟨w.heap.size, 24, [.int .i64 Wd, .int .i64 Ht, .slice (some ad) xs.length k]⟩, ⟨w.heap.size + 1, 95, [.int .i64 ((lin true T).a), .int .i64 ((lin true T).b), .int .i64 ((lin true T).c), .int .i64 ((lin true T).d)]⟩, ⟨w.heap.size + 1 + 1, 112, [.bool false, .bool false, .bool false]⟩, ⟨g23, 4, bools (List.replicate N2 false) ++ rest23⟩]) := ⟨HE.out.to hb⟩
        have HLS := HL0
        have e24 : vs 24 = .agg #[.bool true, .bool false, .bool false] := hv 0 (by decide) rfl
        obtain ⟨g7, e7, l7, b7⟩ : ∃ g, vs 7 = .pointer (some ⟨g, 0, none⟩) ∧ _ := hal 1 rfl
        replace HE : Hd (Env X3 [⟨w.heap.size, 24, [.int .i64 Wd, .int .i64 Ht, .slice (some ad) xs.length k]⟩, ⟨w.heap.size + 1, 95, [.int .i64 ((lin true T).a), .int .i64 ((lin true T).b), .int .i64 ((lin true T).c), .int .i64 ((lin true T).d)]⟩, ⟨w.heap.size + 1 + 1, 112, [.bool false, .bool false, .bool false]⟩, ⟨g23, 4, bools (List.replicate N2 false) ++ rest23⟩, ⟨g7, 112, [.bool false, .bool false, .bool false]⟩]) := ⟨Env.addne (e := ⟨g7, 112, [.bool false, .bool false, .bool false]⟩) HE.out b7 (fun e' he => Nat.ne_of_lt (Nat.lt_of_lt_of_le (HL0.out e' he) l7))⟩
        have G7 : Hd (w.heap.size ≤ g7) := ⟨Nat.le_trans HBW.out.size l7⟩
        simp only [putAll, List.foldl_cons, List.foldl_nil, Act.put, List.setIfInBounds_toArray, List.set_cons_succ, List.set_cons_zero, List.drop_succ_cons, List.drop_zero, e24, e7]
        clear hv hal hne hb HL0 HBW HLS e24 e7 l7 b7
        refine wpList_st rfl rfl rfl rfl rfl (sto_D (HE.out.get 4 rfl)) ?_
        have HE' : Env (putL X3 g7 0 [.bool true, .bool false, .bool false]) [⟨w.heap.size, 24, [.int .i64 Wd, .int .i64 Ht, .slice (some ad) xs.length k]⟩, ⟨w.heap.size + 1, 95, [.int .i64 ((lin true T).a), .int .i64 ((lin true T).b), .int .i64 ((lin true T).c), .int .i64 ((lin true T).d)]⟩, ⟨w.heap.size + 1 + 1, 112, [.bool false, .bool false, .bool false]⟩, ⟨g23, 4, bools (List.replicate N2 false) ++ rest23⟩, ⟨g7, 112, [.bool true, .bool false, .bool false]⟩] := HE.out.putF 4 rfl rfl
        have HB' := putL_below (show w.heap.size ≤ g7 from G7.out) [.bool true, .bool false, .bool false] _ 0 HB.out
        generalize putL X3 g7 0 [.bool true, .bool false, .bool false] = X4 at *
        replace HE := Hd.mk HE'
        replace HB := Hd.mk HB'
        clear HE' HB'
        go_upto_region 4 with fail
        refine wp_region_vd 2 [25, 26] [0, 1] [] 84 [.int .i64 0, .int .i64 0] [isV (.int .i64 n), isV (.int .i64 0)] (by rfl) alloc_Z ?_ ?_
        · intro qi qh qA aa wx hb hs hd
          match qi, qh, qA with
          | 0, _, _ => exact .inl ⟨rfl, op_mv rfl (hs 5 rfl)⟩
          | 1, _, _ => exact .inl ⟨rfl, op_mv rfl rfl⟩
          | qi + 2, h, _ => omega
        · intro vs X5 hb hv hal hne
          have HL0 := Hd.mk (HE.out.lt)
          have HBW := HB
          replace HB := Hd.mk (bel_then HB.out hb)
          replace HE : Hd (Env X5 [⟨w.heap.size, 24, [.int .i64 Wd, .int .i64 Ht, .slice (some ad) xs.length k]⟩, ⟨w.heap.size + 1, 95, [.int .i64 ((lin true T).a), .int .i64 ((lin true T).b), .int .i64 ((lin true T).c), .int .i64 ((lin true T).d)]⟩, ⟨w.heap.size + 1 + 1, 112, [.bool false, .bool false, .bool false]⟩, ⟨g23, 4, bools (List.replicate N2 false) ++ rest23⟩, ⟨g7, 112, [.bool true, .bool false, .bool false]⟩]) := ⟨HE.out.to hb⟩
          have HLS := HL0
          have e25 : vs 25 = .int .i64 n := hv 0 (by decide) rfl
          have e26 : vs 26 = .int .i64 0 := hv 1 (by decide) rfl
          simp only [putAll, List.foldl_cons, List.foldl_nil, Act.put, List.setIfInBounds_toArray, List.set_cons_succ, List.set_cons_zero, List.drop_succ_cons, List.drop_zero, e25, e26]
          clear hv hal hne hb HL0 HBW HLS e25 e26
          go_wp2_with fail
          go_loopw [26] (fun sx wr => ∃ (x : Nat) (bs : List Bool) (e : Bool), (x : Int) ≤ n ∧ sx = .int .i64 (x : Int) ∧ (Env wr [⟨w.heap.size, 24, [.int .i64 Wd, .int .i64 Ht, .slice (some ad) xs.length k]⟩, ⟨w.heap.size + 1, 95, [.int .i64 ((lin true T).a), .int .i64 ((lin true T).b), .int .i64 ((lin true T).c), .int .i64 ((lin true T).d)]⟩, ⟨w.heap.size + 1 + 1, 112, [.bool false, .bool false, .bool false]⟩, ⟨g23, 4, bools bs ++ rest23⟩, ⟨g7, 112, [.bool e, .bool false, .bool false]⟩] ∧ Below w.heap.size w wr) ∧ SymL (colF Wd Ht xs) true T n bs x 0 ∧ Em (colF Wd Ht xs) true T n e x 0) (fun sx _ => n.toNat - (intOf sx).toNat)
          case atStart => exact ⟨0, _, _, by omega, rfl, ⟨HE.out, HB.out⟩, SymL.start HN2.out, Em.start⟩
          case round =>
            obtain ⟨x, bs, e, hxn, rfl, ⟨he, hb⟩, hs, hem⟩ := hrel
            clear HB HE
            have HB := Hd.mk hb
            have HE : Hd (Env wr [⟨w.heap.size, 24, [.int .i64 Wd, .int .i64 Ht, .slice (some ad) xs.length k]⟩, ⟨w.heap.size + 1, 95, [.int .i64 ((lin true T).a), .int .i64 ((lin true T).b), .int .i64 ((lin true T).c), .int .i64 ((lin true T).d)]⟩, ⟨w.heap.size + 1 + 1, 112, [.bool false, .bool false, .bool false]⟩, ⟨g23, 4, bools bs ++ rest23⟩, ⟨g7, 112, [.bool e, .bool false, .bool false]⟩]) := ⟨he⟩
            clear he hb
            have HS := Hd.mk hs
            have HEM := Hd.mk hem
            clear hs hem
            by_cases hx : (x : Int) < n
            · skip
              go_upto_region 6 with fail
              refine wp_region_vd 1 [28] [0] [] 84 [.int .i64 0, .int .i64 0] [isV (.int .i64 (((x : Nat) : Int)))] (by rfl) alloc_Z ?_ ?_
              · intro qi qh qA aa wx hb hs hd
                match qi, qh, qA with
                | 0, _, _ => exact .inl ⟨rfl, op_mv rfl (hs 26 rfl)⟩
                | qi + 1, h, _ => omega
              · intro vs X1 hb hv hal hne
                have HL0 := Hd.mk (HE.out.lt)
                have HBW := HB
                replace HB := Hd.mk (bel_then HB.out hb)
                replace HE : Hd (Env X1 [⟨w.heap.size, 24, [.int .i64 Wd, .int .i64 Ht, .slice (some ad) xs.length k]⟩, ⟨w.heap.size + 1, 95, [.int .i64 ((lin true T).a), .int .i64 ((lin true T).b), .int .i64 ((lin true T).c), .int .i64 ((lin true T).d)]⟩, ⟨w.heap.size + 1 + 1, 112, [.bool false, .bool false, .bool false]⟩, ⟨g23, 4, bools bs ++ rest23⟩, ⟨g7, 112, [.bool e, .bool false, .bool false]⟩]) := ⟨HE.out.to hb⟩
                have HLS := HL0
                have e28 : vs 28 = .int .i64 (((x : Nat) : Int)) := hv 0 (by decide) rfl
                simp only [putAll, List.foldl_cons, List.foldl_nil, Act.put, List.setIfInBounds_toArray, List.set_cons_succ, List.set_cons_zero, List.drop_succ_cons, List.drop_zero, e28]
                clear hv hal hne hb HL0 HBW HLS e28
                go_upto_region 7 with fail
                refine wp_region_vd 2 [29, 30] [0, 1] [] 84 [.int .i64 0, .int .i64 0] [isV (.int .i64 n), isV (.int .i64 0)] (by rfl) alloc_Z ?_ ?_
                · intro qi qh qA aa wx hb hs hd
                  match qi, qh, qA with
                  | 0, _, _ => exact .inl ⟨rfl, op_mv rfl (hs 5 rfl)⟩
                  | 1, _, _ => exact .inl ⟨rfl, op_mv rfl rfl⟩
                  | qi + 2, h, _ => omega
                · intro vs X2 hb hv hal hne
                  have HL0 := Hd.mk (HE.out.lt)
                  have HBW := HB
                  replace HB := Hd.mk (bel_then HB.out hb)
                  replace HE : Hd (Env X2 [⟨w.heap.size, 24, [.int .i64 Wd, .int .i64 Ht, .slice (some ad) xs.length k]⟩, ⟨w.heap.size + 1, 95, [.int .i64 ((lin true T).a), .int .i64 ((lin true T).b), .int .i64 ((lin true T).c), .int .i64 ((lin true T).d)]⟩, ⟨w.heap.size + 1 + 1, 112, [.bool false, .bool false, .bool false]⟩, ⟨g23, 4, bools bs ++ rest23⟩, ⟨g7, 112, [.bool e, .bool false, .bool false]⟩]) := ⟨HE.out.to hb⟩
                  have HLS := HL0
                  have e29 : vs 29 = .int .i64 n := hv 0 (by decide) rfl
                  have e30 : vs 30 = .int .i64 0 := hv 1 (by decide) rfl
                  simp only [putAll, List.foldl_cons, List.foldl_nil, Act.put, List.setIfInBounds_toArray, List.set_cons_succ, List.set_cons_zero, List.drop_succ_cons, List.drop_zero, e29, e30]
                  clear hv hal hne hb HL0 HBW HLS e29 e30
                  go_wp2_with fail
                  go_loopw [30] (fun sy wr => ∃ (y : Nat) (bs : List Bool) (e : Bool), (y : Int) ≤ n ∧ sy = .int .i64 (y : Int) ∧ (Env wr [⟨w.heap.size, 24, [.int .i64 Wd, .int .i64 Ht, .slice (some ad) xs.length k]⟩, ⟨w.heap.size + 1, 95, [.int .i64 ((lin true T).a), .int .i64 ((lin true T).b), .int .i64 ((lin true T).c), .int .i64 ((lin true T).d)]⟩, ⟨w.heap.size + 1 + 1, 112, [.bool false, .bool false, .bool false]⟩, ⟨g23, 4, bools bs ++ rest23⟩, ⟨g7, 112, [.bool e, .bool false, .bool false]⟩] ∧ Below w.heap.size w wr) ∧ SymL (colF Wd Ht xs) true T n bs x y ∧ Em (colF Wd Ht xs) true T n e x y) (fun sy _ => n.toNat - (intOf sy).toNat)
                  case atStart => exact ⟨0, _, _, by omega, rfl, ⟨HE.out, HB.out⟩, HS.out, HEM.out⟩
                  case round =>
                    clear HS HEM HB HE
                    clear e bs
                    obtain ⟨y, bs, e, hyn, rfl, ⟨he, hb⟩, hs, hem⟩ := hrel
                    have HB := Hd.mk hb
                    have HE : Hd (Env wr [⟨w.heap.size, 24, [.int .i64 Wd, .int .i64 Ht, .slice (some ad) xs.length k]⟩, ⟨w.heap.size + 1, 95, [.int .i64 ((lin true T).a), .int .i64 ((lin true T).b), .int .i64 ((lin true T).c), .int .i64 ((lin true T).d)]⟩, ⟨w.heap.size + 1 + 1, 112, [.bool false, .bool false, .bool false]⟩, ⟨g23, 4, bools bs ++ rest23⟩, ⟨g7, 112, [.bool e, .bool false, .bool false]⟩]) := ⟨he⟩
                    have HS := Hd.mk hs
                    have HEM := Hd.mk hem
                    clear he hb hs hem
                    by_cases hy : (y : Int) < n
                    · skip
                      go_upto_region 9 with fail
                      refine wp_region_vd 1 [32] [0] [] 84 [.int .i64 0, .int .i64 0] [isV (.int .i64 (((y : Nat) : Int)))] (by rfl) alloc_Z ?_ ?_
                      · intro qi qh qA aa wx hb hs hd
                        match qi, qh, qA with
                        | 0, _, _ => exact .inl ⟨rfl, op_mv rfl (hs 30 rfl)⟩
                        | qi + 1, h, _ => omega
                      · intro vs X1 hb hv hal hne
                        have HL0 := Hd.mk (HE.out.lt)
                        have HBW := HB
                        replace HB := Hd.mk (bel_then HB.out hb)
                        replace HE : Hd (Env X1 [⟨w.heap.size, 24, [.int .i64 Wd, .int .i64 Ht, .slice (some ad) xs.length k]⟩, ⟨w.heap.size + 1, 95, [.int .i64 ((lin true T).a), .int .i64 ((lin true T).b), .int .i64 ((lin true T).c), .int .i64 ((lin true T).d)]⟩, ⟨w.heap.size + 1 + 1, 112, [.bool false, .bool false, .bool false]⟩, ⟨g23, 4, bools bs ++ rest23⟩, ⟨g7, 112, [.bool e, .bool false, .bool false]⟩]) := ⟨HE.out.to hb⟩
                        have HLS := HL0
                        have e32 : vs 32 = .int .i64 (((y : Nat) : Int)) := hv 0 (by decide) rfl
                        simp only [putAll, List.foldl_cons, List.foldl_nil, Act.put, List.setIfInBounds_toArray, List.set_cons_succ, List.set_cons_zero, List.drop_succ_cons, List.drop_zero, e32]
                        clear hv hal hne hb HL0 HBW HLS e32
                        have hij := idx_ok (n := n) (x := ((x : Nat) : Int)) (y := ((y : Nat) : Int)) (by omega) (by omega)
                        have hnn := mul_b (a := n) (b := n) (A := 30) (B := 30) (by omega) (by omega)
                        have hlen := HS.out.1
                        go_upto_region 10 with fail
                        refine wp_region_vd 12 [33, 34, 35, 36, 37, 38, 39, 40, 41, 42, 43, 44] [0, 1, 2, 3, 4, 5, 8, 9] [] 84 [.int .i64 0, .int .i64 0] [isV (.slice (some ⟨g23, 0, none⟩) N2 N2), isV (.int .i64 (((x : Nat) : Int))), isV (.int .i64 n), isV (.int .i64 ((((x : Nat) : Int)) * n)), isV (.int .i64 (((y : Nat) : Int))), isV (.int .i64 (((((x : Nat) : Int)) * n) + (((y : Nat) : Int)))), isV (.agg #[.int .i64 Wd, .int .i64 Ht, .slice (some ad) xs.length k]), isV (.agg #[.int .i64 ((lin true T).a), .int .i64 ((lin true T).b), .int .i64 ((lin true T).c), .int .i64 ((lin true T).d)]), isV (.int .i64 (((x : Nat) : Int))), isV (.int .i64 (((y : Nat) : Int))), isV (.bool (bP (Sym (colF Wd Ht xs) true T (((x : Nat) : Int)) (((y : Nat) : Int))))), isV (.pointer (some ⟨g23, (((((x : Nat) : Int)) * n) + (((y : Nat) : Int))).toNat, none⟩))] (by rfl) alloc_Z ?_ ?_
                        · intro qi qh qA aa wx hb hs hd
                          match qi, qh, qA with
                          | 0, _, _ => exact .inl ⟨rfl, op_mv rfl (hs 6 rfl)⟩
                          | 1, _, _ => exact .inl ⟨rfl, op_mv rfl (hs 8 rfl)⟩
                          | 2, _, _ => exact .inl ⟨rfl, op_mv rfl (hs 5 rfl)⟩
                          | 3, _, _ => exact .inl ⟨rfl, ⟨_, op_mul (by unfold Fit; omega) rfl (hd 1 rfl) (hd 2 rfl), rfl⟩⟩
                          | 4, _, _ => exact .inl ⟨rfl, op_mv rfl (hs 9 rfl)⟩
                          | 5, _, _ => exact .inl ⟨rfl, ⟨_, op_add (by unfold Fit; omega) rfl (hd 3 rfl) (hd 4 rfl), rfl⟩⟩
                          | 6, _, _ => exact .inl ⟨rfl, op_ldU rfl rfl (hs 2 rfl) ((HE.out.to hb).get 0 rfl)⟩
                          | 7, _, _ => exact .inl ⟨rfl, op_ldL rfl rfl (hs 3 rfl) ((HE.out.to hb).get 1 rfl)⟩
                          | 8, _, _ => exact .inl ⟨rfl, op_mv rfl (hs 8 rfl)⟩
                          | 9, _, _ => exact .inl ⟨rfl, op_mv rfl (hs 9 rfl)⟩
                          | 10, _, _ => exact .inl ⟨rfl, op_call4 rfl rfl Try.call86 (by rw [(show aa.eval (.tmp 39) = .agg #[.int .i64 Wd, .int .i64 Ht, .slice (some ad) xs.length k] from (hd 6 rfl)), (show aa.eval (.tmp 40) = .agg #[.int .i64 ((lin true T).a), .int .i64 ((lin true T).b), .int .i64 ((lin true T).c), .int .i64 ((lin true T).d)] from (hd 7 rfl)), (show aa.eval (.tmp 41) = .int .i64 (((x : Nat) : Int)) from (hd 8 rfl)), (show aa.eval (.tmp 42) = .int .i64 (((y : Nat) : Int)) from (hd 9 rfl))]; exact rkeeps_got Wd Ht ad k xs true T (((x : Nat) : Int)) (((y : Nat) : Int)) HW.out HH.out (by omega) (by omega) _ (HRI.out.to (bel_then HB.out hb)) HL.out HT4.out)⟩
                          | 11, _, _ => exact .inl ⟨rfl, op_run rfl (op_idxB (by omega) (by have h0 := HN2.out; omega) rfl (hd 0 rfl) (hd 5 rfl) _) rfl⟩
                          | qi + 12, h, _ => omega
                        · intro vs X2 hb hv hal hne
                          have HL0 := Hd.mk (HE.out.lt)
                          have HBW := HB
                          replace HB := Hd.mk (bel_then HB.out hb)
                          replace HE : Hd (Env X2 [⟨w.heap.size, 24, [.int .i64 Wd, .int .i64 Ht, .slice (some ad) xs.length k]⟩, ⟨w.heap.size + 1, 95, [.int .i64 ((lin true T).a), .int .i64 ((lin true T).b), .int .i64 ((lin true T).c), .int .i64 ((lin true T).d)]⟩, ⟨w.heap.size + 1 + 1, 112, [.bool false, .bool false, .bool false]⟩, ⟨g23, 4, bools bs ++ rest23⟩, ⟨g7, 112, [.bool e, .bool false, .bool false]⟩]) := ⟨HE.out.to hb⟩
                          have HLS := HL0
                          have e44 : vs 44 = .pointer (some ⟨g23, (((((x : Nat) : Int)) * n) + (((y : Nat) : Int))).toNat, none⟩) := hv 11 (by decide) rfl
                          have e43 : vs 43 = .bool (bP (Sym (colF Wd Ht xs) true T (((x : Nat) : Int)) (((y : Nat) : Int)))) := hv 10 (by decide) rfl
                          simp only [putAll, List.foldl_cons, List.foldl_nil, Act.put, List.setIfInBounds_toArray, List.set_cons_succ, List.set_cons_zero, List.drop_succ_cons, List.drop_zero, e44, e43]
                          generalize vs 33 = s33
                          generalize vs 34 = s34
                          generalize vs 35 = s35
                          generalize vs 36 = s36
                          generalize vs 37 = s37
                          generalize vs 38 = s38
                          generalize vs 39 = s39
                          generalize vs 40 = s40
                          generalize vs 41 = s41
                          generalize vs 42 = s42
                          clear hv hal hne hb HL0 HBW HLS e44 e43
                          refine wpList_st rfl rfl rfl rfl rfl (sto_BB (b := (bP (Sym (colF Wd Ht xs) true T (((x : Nat) : Int)) (((y : Nat) : Int))))) ⟨_, HE.out.get 3 rfl⟩ (by omega)) ?_
                          have HE' : Env (putL X2 g23 ((((((x : Nat) : Int)) * n) + (((y : Nat) : Int))).toNat) [.bool (bP (Sym (colF Wd Ht xs) true T (((x : Nat) : Int)) (((y : Nat) : Int))))]) [⟨w.heap.size, 24, [.int .i64 Wd, .int .i64 Ht, .slice (some ad) xs.length k]⟩, ⟨w.heap.size + 1, 95, [.int .i64 ((lin true T).a), .int .i64 ((lin true T).b), .int .i64 ((lin true T).c), .int .i64 ((lin true T).d)]⟩, ⟨w.heap.size + 1 + 1, 112, [.bool false, .bool false, .bool false]⟩, ⟨g23, 4, bools (bs.set ((((((x : Nat) : Int)) * n) + (((y : Nat) : Int))).toNat) (bP (Sym (colF Wd Ht xs) true T (((x : Nat) : Int)) (((y : Nat) : Int))))) ++ rest23⟩, ⟨g7, 112, [.bool e, .bool false, .bool false]⟩] := HE.out.putBs (b := (bP (Sym (colF Wd Ht xs) true T (((x : Nat) : Int)) (((y : Nat) : Int))))) 3 rfl (by omega)
                          have HB' := putL_below (show w.heap.size ≤ g23 from G23.out) [.bool (bP (Sym (colF Wd Ht xs) true T (((x : Nat) : Int)) (((y : Nat) : Int))))] _ ((((((x : Nat) : Int)) * n) + (((y : Nat) : Int))).toNat) HB.out
                          generalize putL X2 g23 ((((((x : Nat) : Int)) * n) + (((y : Nat) : Int))).toNat) [.bool (bP (Sym (colF Wd Ht xs) true T (((x : Nat) : Int)) (((y : Nat) : Int))))] = X3 at *
                          replace HE := Hd.mk HE'
                          replace HB := Hd.mk HB'
                          clear HE' HB'
                          have HS1 := Hd.mk (HS.out.cell hx hy)
                          have HEM1 := Hd.mk (HEM.out.cell hy)
                          clear hlen
                          rcases (show e = true ∨ e = false by cases e <;> simp) with hE0 | hE0
                          · rw [hE0, Bool.true_and] at HEM1
                            have HEE := Hd.mk hE0
                            clear hE0
                            go_upto_region 11 with fail
                            refine wp_region_vd 14 [45, 46, 47, 48, 49, 50, 51, 52, 53, 54, 55, 56, 57, 58] [0, 2, 3, 4, 5, 6, 7, 8, 11, 12, 13] [] 84 [.int .i64 0, .int .i64 0] [isV (.pointer (some ⟨g7, 0, none⟩)), isV (.bool true), isV (.bool true), isV (.slice (some ⟨g23, 0, none⟩) N2 N2), isV (.int .i64 (((x : Nat) : Int))), isV (.int .i64 n), isV (.int .i64 ((((x : Nat) : Int)) * n)), isV (.int .i64 (((y : Nat) : Int))), isV (.int .i64 (((((x : Nat) : Int)) * n) + (((y : Nat) : Int)))), isV (.pointer (some ⟨g23, (((((x : Nat) : Int)) * n) + (((y : Nat) : Int))).toNat, none⟩)), isV (.bool (bP (Sym (colF Wd Ht xs) true T ((x : Nat) : Int) ((y : Nat) : Int)))), isV (.bool (!(bP (Sym (colF Wd Ht xs) true T ((x : Nat) : Int) ((y : Nat) : Int))))), isV (.bool (!(bP (Sym (colF Wd Ht xs) true T ((x : Nat) : Int) ((y : Nat) : Int))))), isV (.pointer (some ⟨g7, 0, none⟩))] (by rfl) alloc_Z ?_ ?_
                            · intro qi qh qA aa wx hb hs hd
                              match qi, qh, qA with
                              | 0, _, _ => exact .inl ⟨rfl, ⟨_, op_faD0 rfl (hs 7 rfl), rfl⟩⟩
                              | 1, _, _ => exact .inl ⟨rfl, wp_b (bool_eq HEE.out) (op_ldB rfl rfl (hd 0 rfl) ((HE.out.to hb).cell 4 0 rfl rfl))⟩
                              | 2, _, _ => exact .inl ⟨rfl, op_mv rfl (hd 1 rfl)⟩
                              | 3, _, _ => exact .inl ⟨⟨rfl, .inl (hd 2 rfl)⟩, op_mv rfl (hs 6 rfl)⟩
                              | 4, _, _ => exact .inl ⟨⟨rfl, .inl (hd 2 rfl)⟩, op_mv rfl (hs 8 rfl)⟩
                              | 5, _, _ => exact .inl ⟨⟨rfl, .inl (hd 2 rfl)⟩, op_mv rfl (hs 5 rfl)⟩
                              | 6, _, _ => exact .inl ⟨⟨rfl, .inl (hd 2 rfl)⟩, ⟨_, op_mul (by unfold Fit; omega) rfl (hd 4 rfl) (hd 5 rfl), rfl⟩⟩
                              | 7, _, _ => exact .inl ⟨⟨rfl, .inl (hd 2 rfl)⟩, op_mv rfl (hs 9 rfl)⟩
                              | 8, _, _ => exact .inl ⟨⟨rfl, .inl (hd 2 rfl)⟩, ⟨_, op_add (by unfold Fit; omega) rfl (hd 6 rfl) (hd 7 rfl), rfl⟩⟩
                              | 9, _, _ => exact .inl ⟨⟨rfl, .inl (hd 2 rfl)⟩, op_run rfl (op_idxB (by omega) (by have h0 := HN2.out; omega) rfl (hd 3 rfl) (hd 8 rfl) _) rfl⟩
                              | 10, _, _ => exact .inl ⟨⟨rfl, .inl (hd 2 rfl)⟩, wp_b (bool_eq (HS1.out.at_ (by omega) (by omega) (by omega))) (op_ldB rfl rfl (hd 9 rfl) (BB.cell ⟨_, (HE.out.to hb).get 3 rfl⟩ (by rw [List.length_set]; have h1 := HS.out.1; omega)))⟩
                              | 11, _, _ => exact .inl ⟨⟨rfl, .inl (hd 2 rfl)⟩, ⟨_, op_not rfl (hd 10 rfl), rfl⟩⟩
                              | 12, _, _ => exact .inl ⟨rfl, ⟨_, op_pickT rfl (hd 2 rfl) (hd 11 rfl), rfl⟩⟩
                              | 13, _, _ => exact .inl ⟨rfl, ⟨_, op_faD0 rfl (hs 7 rfl), rfl⟩⟩
                              | qi + 14, h, _ => omega
                            · intro vs X4 hb hv hal hne
                              have HL0 := Hd.mk (HE.out.lt)
                              have HBW := HB
                              replace HB := Hd.mk (bel_then HB.out hb)
                              replace HE : Hd (Env X4 [⟨w.heap.size, 24, [.int .i64 Wd, .int .i64 Ht, .slice (some ad) xs.length k]⟩, ⟨w.heap.size + 1, 95, [.int .i64 ((lin true T).a), .int .i64 ((lin true T).b), .int .i64 ((lin true T).c), .int .i64 ((lin true T).d)]⟩, ⟨w.heap.size + 1 + 1, 112, [.bool false, .bool false, .bool false]⟩, ⟨g23, 4, bools (bs.set ((((((x : Nat) : Int)) * n) + (((y : Nat) : Int))).toNat) (bP (Sym (colF Wd Ht xs) true T (((x : Nat) : Int)) (((y : Nat) : Int))))) ++ rest23⟩, ⟨g7, 112, [.bool e, .bool false, .bool false]⟩]) := ⟨HE.out.to hb⟩
                              have HLS := HL0
                              have e58 : vs 58 = .pointer (some ⟨g7, 0, none⟩) := hv 13 (by decide) rfl
                              have e57 : vs 57 = .bool (!(bP (Sym (colF Wd Ht xs) true T ((x : Nat) : Int) ((y : Nat) : Int)))) := hv 12 (by decide) rfl
                              simp only [putAll, List.foldl_cons, List.foldl_nil, Act.put, List.setIfInBounds_toArray, List.set_cons_succ, List.set_cons_zero, List.drop_succ_cons, List.drop_zero, e58, e57]
                              generalize vs 45 = s45
                              generalize vs 46 = s46
                              generalize vs 47 = s47
                              generalize vs 48 = s48
                              generalize vs 49 = s49
                              generalize vs 50 = s50
                              generalize vs 51 = s51
                              generalize vs 52 = s52
                              generalize vs 53 = s53
                              generalize vs 54 = s54
                              generalize vs 55 = s55
                              generalize vs 56 = s56
                              clear hv hal hne hb HL0 HBW HLS e58 e57
                              refine wpList_st rfl rfl rfl rfl rfl (sto_B (HE.out.get 4 rfl) rfl) ?_
                              have HE' : Env (putL X4 g7 0 [.bool (!(bP (Sym (colF Wd Ht xs) true T ((x : Nat) : Int) ((y : Nat) : Int))))]) [⟨w.heap.size, 24, [.int .i64 Wd, .int .i64 Ht, .slice (some ad) xs.length k]⟩, ⟨w.heap.size + 1, 95, [.int .i64 ((lin true T).a), .int .i64 ((lin true T).b), .int .i64 ((lin true T).c), .int .i64 ((lin true T).d)]⟩, ⟨w.heap.size + 1 + 1, 112, [.bool false, .bool false, .bool false]⟩, ⟨g23, 4, bools (bs.set ((((((x : Nat) : Int)) * n) + (((y : Nat) : Int))).toNat) (bP (Sym (colF Wd Ht xs) true T (((x : Nat) : Int)) (((y : Nat) : Int))))) ++ rest23⟩, ⟨g7, 112, [.bool (!(bP (Sym (colF Wd Ht xs) true T ((x : Nat) : Int) ((y : Nat) : Int)))), .bool false, .bool false]⟩] := HE.out.putO 4 rfl
                              have HB' := putL_below (show w.heap.size ≤ g7 from G7.out) [.bool (!(bP (Sym (colF Wd Ht xs) true T ((x : Nat) : Int) ((y : Nat) : Int))))] _ 0 HB.out
                              generalize putL X4 g7 0 [.bool (!(bP (Sym (colF Wd Ht xs) true T ((x : Nat) : Int) ((y : Nat) : Int))))] = X5 at *
                              replace HE := Hd.mk HE'
                              replace HB := Hd.mk HB'
                              clear HE' HB'
                              go_wp2_with fail
                              go_roundw
                              case rel => exact ⟨y + 1, _, _, by omega, by go_num, ⟨HE.out, HB.out⟩, HS1.out, HEM1.out⟩
                              case measure => simp [intOf]; omega
                          · rw [hE0, Bool.false_and] at HEM1
                            have HEE := Hd.mk hE0
                            clear hE0
                            go_upto_region 11 with fail
                            refine wp_region_vd 14 [45, 46, 47, 48, 49, 50, 51, 52, 53, 54, 55, 56, 57, 58] [0, 2, 12, 13] [] 84 [.int .i64 0, .int .i64 0] [isV (.pointer (some ⟨g7, 0, none⟩)), isV (.bool false), isV (.bool false), isV undef, isV undef, isV undef, isV undef, isV undef, isV undef, isV undef, isV undef, isV undef, isV (.bool false), isV (.pointer (some ⟨g7, 0, none⟩))] (by rfl) alloc_Z ?_ ?_
                            · intro qi qh qA aa wx hb hs hd
                              match qi, qh, qA with
                              | 0, _, _ => exact .inl ⟨rfl, ⟨_, op_faD0 rfl (hs 7 rfl), rfl⟩⟩
                              | 1, _, _ => exact .inl ⟨rfl, wp_b (bool_eq HEE.out) (op_ldB rfl rfl (hd 0 rfl) ((HE.out.to hb).cell 4 0 rfl rfl))⟩
                              | 2, _, _ => exact .inl ⟨rfl, op_mv rfl (hd 1 rfl)⟩
                              | 3, _, _ => exact .inr ⟨⟨rfl, .inl (hd 2 rfl)⟩, rfl⟩
                              | 4, _, _ => exact .inr ⟨⟨rfl, .inl (hd 2 rfl)⟩, rfl⟩
                              | 5, _, _ => exact .inr ⟨⟨rfl, .inl (hd 2 rfl)⟩, rfl⟩
                              | 6, _, _ => exact .inr ⟨⟨rfl, .inl (hd 2 rfl)⟩, rfl⟩
                              | 7, _, _ => exact .inr ⟨⟨rfl, .inl (hd 2 rfl)⟩, rfl⟩
                              | 8, _, _ => exact .inr ⟨⟨rfl, .inl (hd 2 rfl)⟩, rfl⟩
                              | 9, _, _ => exact .inr ⟨⟨rfl, .inl (hd 2 rfl)⟩, rfl⟩
                              | 10, _, _ => exact .inr ⟨⟨rfl, .inl (hd 2 rfl)⟩, rfl⟩
                              | 11, _, _ => exact .inr ⟨⟨rfl, .inl (hd 2 rfl)⟩, rfl⟩
                              | 12, _, _ => exact .inl ⟨rfl, ⟨_, op_pickF rfl (hd 2 rfl) rfl, rfl⟩⟩
                              | 13, _, _ => exact .inl ⟨rfl, ⟨_, op_faD0 rfl (hs 7 rfl), rfl⟩⟩
                              | qi + 14, h, _ => omega
                            · intro vs X4 hb hv hal hne
                              have HL0 := Hd.mk (HE.out.lt)
                              have HBW := HB
                              replace HB := Hd.mk (bel_then HB.out hb)
                              replace HE : Hd (Env X4 [⟨w.heap.size, 24, [.int .i64 Wd, .int .i64 Ht, .slice (some ad) xs.length k]⟩, ⟨w.heap.size + 1, 95, [.int .i64 ((lin true T).a), .int .i64 ((lin true T).b), .int .i64 ((lin true T).c), .int .i64 ((lin true T).d)]⟩, ⟨w.heap.size + 1 + 1, 112, [.bool false, .bool false, .bool false]⟩, ⟨g23, 4, bools (bs.set ((((((x : Nat) : Int)) * n) + (((y : Nat) : Int))).toNat) (bP (Sym (colF Wd Ht xs) true T (((x : Nat) : Int)) (((y : Nat) : Int))))) ++ rest23⟩, ⟨g7, 112, [.bool e, .bool false, .bool false]⟩]) := ⟨HE.out.to hb⟩
                              have HLS := HL0
                              have e58 : vs 58 = .pointer (some ⟨g7, 0, none⟩) := hv 13 (by decide) rfl
                              have e57 : vs 57 = .bool false := hv 12 (by decide) rfl
                              simp only [putAll, List.foldl_cons, List.foldl_nil, Act.put, List.setIfInBounds_toArray, List.set_cons_succ, List.set_cons_zero, List.drop_succ_cons, List.drop_zero, e58, e57]
                              generalize vs 45 = s45
                              generalize vs 46 = s46
                              generalize vs 47 = s47
                              generalize vs 48 = s48
                              generalize vs 49 = s49
                              generalize vs 50 = s50
                              generalize vs 51 = s51
                              generalize vs 52 = s52
                              generalize vs 53 = s53
                              generalize vs 54 = s54
                              generalize vs 55 = s55
                              generalize vs 56 = s56
                              clear hv hal hne hb HL0 HBW HLS e58 e57
                              refine wpList_st rfl rfl rfl rfl rfl (sto_B (HE.out.get 4 rfl) rfl) ?_
                              have HE' : Env (putL X4 g7 0 [.bool false]) [⟨w.heap.size, 24, [.int .i64 Wd, .int .i64 Ht, .slice (some ad) xs.length k]⟩, ⟨w.heap.size + 1, 95, [.int .i64 ((lin true T).a), .int .i64 ((lin true T).b), .int .i64 ((lin true T).c), .int .i64 ((lin true T).d)]⟩, ⟨w.heap.size + 1 + 1, 112, [.bool false, .bool false, .bool false]⟩, ⟨g23, 4, bools (bs.set ((((((x : Nat) : Int)) * n) + (((y : Nat) : Int))).toNat) (bP (Sym (colF Wd Ht xs) true T (((x : Nat) : Int)) (((y : Nat) : Int))))) ++ rest23⟩, ⟨g7, 112, [.bool false, .bool false, .bool false]⟩] := HE.out.putO 4 rfl
                              have HB' := putL_below (show w.heap.size ≤ g7 from G7.out) [.bool false] _ 0 HB.out
                              generalize putL X4 g7 0 [.bool false] = X5 at *
                              replace HE := Hd.mk HE'
                              replace HB := Hd.mk HB'
                              clear HE' HB'
                              go_wp2_with fail
                              go_roundw
                              case rel => exact ⟨y + 1, _, _, by omega, by go_num, ⟨HE.out, HB.out⟩, HS1.out, HEM1.out⟩
                              case measure => simp [intOf]; omega
                    · skip
                      go_wp2_with fail
                      go_roundw
                      case rel => exact ⟨x + 1, _, _, by omega, by go_num, ⟨HE.out, HB.out⟩, HS.out.row (by omega), HEM.out.row (by omega)⟩
                      case measure => simp [intOf]; omega
            · have HEMP := Hd.mk (HEM.out.all (by omega) hn1.1 HPER.out)
              have HSL : Hd (∀ p q : Int, (0 ≤ p ∧ p < n) → (0 ≤ q ∧ q < n) → bs.getD (p * n + q).toNat false = bP (Sym (colF Wd Ht xs) true T p q)) := ⟨fun p q hp hq => HS.out.at_ hp hq (by omega)⟩
              have HSB := Hd.mk HS.out.1
              clear HS HEM
              go_upto_region 14 with fail
              refine wp_region_vf (fun g => .slice (some ⟨g, 0, none⟩) N1 N1) (fun g h e => by injection e with e; injection e with e; injection e) 8 [61, 62, 63, 64, 65, 66, 10, 11] [0, 1, 3, 4, 6, 7] [2, 5] 4 (bools (List.replicate N1 false)) [isV (.int .i64 n), isV (.int .i64 (N1 : Int)), SP.any, isV (.int .i64 n), isV (.int .i64 (N1 : Int)), SP.any, SP.any, SP.any] (by kernel_rfl) (by kernel_rfl) (by kernel_rfl) (by rfl) ?_ [(6, 2), (7, 5)] ?_ (fun d v c a w h => by cases d <;> exact h) ?_ ?_
              · intro i hA aa wx hb hs hd o ho
                have hi : i = 2 ∨ i = 5 := by simpa using hA
                rcases hi with rfl | rfl
                · injection ho with ho
                  subst ho
                  exact make_exec (by have h0 := HN1.out; omega) rfl (hd 1 rfl) (hd 1 rfl) _
                · injection ho with ho
                  subst ho
                  exact make_exec (by have h0 := HN1.out; omega) rfl (hd 4 rfl) (hd 4 rfl) _
              · intro c s h
                simp only [List.mem_cons, Prod.mk.injEq, List.not_mem_nil, or_false] at h
                rcases h with ⟨rfl, rfl⟩ | ⟨rfl, rfl⟩
                · exact ⟨rfl, _, rfl, rfl, _, .head _, rfl, rfl⟩
                · exact ⟨rfl, _, rfl, rfl, _, .head _, rfl, rfl⟩
              · intro qi qh qA aa wx hb hs hd
                match qi, qh, qA with
                | 0, _, _ => exact op_mv rfl (hs 5 rfl)
                | 1, _, _ => exact pure_b (int_eq HN1.out) (⟨_, op_mul (by unfold Fit; omega) rfl rfl (hd 0 rfl), rfl⟩)
                | 2, _, h => cases h
                | 3, _, _ => exact op_mv rfl (hs 5 rfl)
                | 4, _, _ => exact pure_b (int_eq HN1.out) (⟨_, op_mul (by unfold Fit; omega) rfl rfl (hd 3 rfl), rfl⟩)
                | 5, _, h => cases h
                | 6, _, _ => exact op_asg (s := SP.any) rfl trivial
                | 7, _, _ => exact op_asg (s := SP.any) rfl trivial
                | qi + 8, h, _ => omega
              · intro vs XA hcp hb hv hal hne
                have HL0 := Hd.mk (HE.out.lt)
                have HBW := HB
                obtain ⟨g10, e63, l10, b10⟩ := hal 2 rfl
                obtain ⟨g11, e66, l11, b11⟩ := hal 5 rfl
                have e10 : vs 10 = .slice (some ⟨g10, 0, none⟩) N1 N1 := (hcp 6 2 (by simp)).trans e63
                have e11 : vs 11 = .slice (some ⟨g11, 0, none⟩) N1 N1 := (hcp 7 5 (by simp)).trans e66
                have hgg : g10 ≠ g11 := fun e => hne 2 5 rfl rfl (by decide) (e63.trans ((by rw [e]) : (Value.slice (some ⟨g10, 0, none⟩) N1 N1) = .slice (some ⟨g11, 0, none⟩) N1 N1) |>.trans e66.symm)
                obtain ⟨restN, hrN⟩ : ∃ r : List Value, r = [] := ⟨_, rfl⟩
                rw [← List.append_nil (bools (List.replicate N1 false)), ← hrN] at b10 b11
                replace HB := Hd.mk (bel_then HB.out hb)
                have HE1 := Env.addne (e := ⟨g10, 4, bools (List.replicate N1 false) ++ restN⟩) (HE.out.to hb) b10 (fun e' he => Nat.ne_of_lt (Nat.lt_of_lt_of_le (HL0.out e' he) l10))
                have HE2 := Env.addne (e := ⟨g11, 4, bools (List.replicate N1 false) ++ restN⟩) HE1 b11 (fun e' he => (List.mem_append.1 he).elim (fun he => Nat.ne_of_lt (Nat.lt_of_lt_of_le (HL0.out e' he) l11)) (fun he => by rw [List.mem_singleton.1 he]; exact hgg))
                replace HE := Hd.mk HE2
                have G10 : Hd (w.heap.size ≤ g10) := ⟨Nat.le_trans HBW.out.size l10⟩
                have G11 : Hd (w.heap.size ≤ g11) := ⟨Nat.le_trans HBW.out.size l11⟩
                simp only [putAll, List.foldl_cons, List.foldl_nil, Act.put, List.setIfInBounds_toArray, List.set_cons_succ, List.set_cons_zero, List.drop_succ_cons, List.drop_zero, e10, e11]
                clear e10 e11 hcp e63 e66 hal hne
                generalize vs 61 = s61
                generalize vs 62 = s62
                generalize vs 63 = s63
                generalize vs 64 = s64
                generalize vs 65 = s65
                generalize vs 66 = s66
                clear hv hb HL0 HBW HE1 HE2 b10 b11 l10 l11 hgg
                go_upto_region 15 with fail
                refine wp_region_vd 2 [67, 68] [0, 1] [] 84 [.int .i64 0, .int .i64 0] [isV (.int .i64 n), isV (.int .i64 ((-2) * n))] (by rfl) alloc_Z ?_ ?_
                · intro qi qh qA aa wx hb hs hd
                  match qi, qh, qA with
                  | 0, _, _ => exact .inl ⟨rfl, op_mv rfl (hs 5 rfl)⟩
                  | 1, _, _ => exact .inl ⟨rfl, ⟨_, op_mul (by unfold Fit; omega) rfl rfl (hd 0 rfl), rfl⟩⟩
                  | qi + 2, h, _ => omega
                · intro vs X1 hb hv hal hne
                  have HL0 := Hd.mk (HE.out.lt)
                  have HBW := HB
                  replace HB := Hd.mk (bel_then HB.out hb)
                  replace HE : Hd (Env X1 [⟨w.heap.size, 24, [.int .i64 Wd, .int .i64 Ht, .slice (some ad) xs.length k]⟩, ⟨w.heap.size + 1, 95, [.int .i64 ((lin true T).a), .int .i64 ((lin true T).b), .int .i64 ((lin true T).c), .int .i64 ((lin true T).d)]⟩, ⟨w.heap.size + 1 + 1, 112, [.bool false, .bool false, .bool false]⟩, ⟨g23, 4, bools bs ++ rest23⟩, ⟨g7, 112, [.bool e, .bool false, .bool false]⟩, ⟨g10, 4, bools (List.replicate N1 false) ++ restN⟩, ⟨g11, 4, bools (List.replicate N1 false) ++ restN⟩]) := ⟨HE.out.to hb⟩
                  have HLS := HL0
                  have e68 : vs 68 = .int .i64 ((-2) * n) := hv 1 (by decide) rfl
                  simp only [putAll, List.foldl_cons, List.foldl_nil, Act.put, List.setIfInBounds_toArray, List.set_cons_succ, List.set_cons_zero, List.drop_succ_cons, List.drop_zero, e68]
                  generalize vs 67 = s67
                  clear hv hal hne hb HL0 HBW HLS e68
                  go_wp2_with fail
                  go_loopw [12] (fun sx wr => ∃ (a : Int) (bm bg : List Bool), (-2 * n ≤ a ∧ a ≤ 2 * n) ∧ sx = .int .i64 a ∧ (Env wr [⟨w.heap.size, 24, [.int .i64 Wd, .int .i64 Ht, .slice (some ad) xs.length k]⟩, ⟨w.heap.size + 1, 95, [.int .i64 ((lin true T).a), .int .i64 ((lin true T).b), .int .i64 ((lin true T).c), .int .i64 ((lin true T).d)]⟩, ⟨w.heap.size + 1 + 1, 112, [.bool false, .bool false, .bool false]⟩, ⟨g23, 4, bools bs ++ rest23⟩, ⟨g7, 112, [.bool e, .bool false, .bool false]⟩, ⟨g10, 4, bools bm ++ restN⟩, ⟨g11, 4, bools bg ++ restN⟩] ∧ Below w.heap.size w wr) ∧ Mk (colF Wd Ht xs) T n (fun z => z = 0) bm a (-2 * n) ∧ Mk (colF Wd Ht xs) T n (fun z => z ≠ 0) bg a (-2 * n)) (fun sx _ => (2 * n - intOf sx).toNat)
                  case atStart => exact ⟨(-2) * n, _, _, by omega, rfl, ⟨HE.out, HB.out⟩, Mk.start HN1.out, Mk.start HN1.out⟩
                  case round =>
                    obtain ⟨a, bm, bg, han, rfl, ⟨he, hb⟩, hm, hgl⟩ := hrel
                    clear HB HE
                    have HB := Hd.mk hb
                    have HE : Hd (Env wr [⟨w.heap.size, 24, [.int .i64 Wd, .int .i64 Ht, .slice (some ad) xs.length k]⟩, ⟨w.heap.size + 1, 95, [.int .i64 ((lin true T).a), .int .i64 ((lin true T).b), .int .i64 ((lin true T).c), .int .i64 ((lin true T).d)]⟩, ⟨w.heap.size + 1 + 1, 112, [.bool false, .bool false, .bool false]⟩, ⟨g23, 4, bools bs ++ rest23⟩, ⟨g7, 112, [.bool e, .bool false, .bool false]⟩, ⟨g10, 4, bools bm ++ restN⟩, ⟨g11, 4, bools bg ++ restN⟩]) := ⟨he⟩
                    clear he hb
                    have HMM := Hd.mk hm
                    have HGG := Hd.mk hgl
                    clear hm hgl
                    by_cases hx : a < 2 * n
                    · skip
                      go_upto_region 16 with fail
                      refine wp_region_vd 4 [69, 70, 71, 72] [0, 1, 2, 3] [] 84 [.int .i64 0, .int .i64 0] [isV (.int .i64 a), isV (.int .i64 n), isV (.int .i64 (2 * n)), isV (.bool true)] (by rfl) alloc_Z ?_ ?_
                      · intro qi qh qA aa wx hb hs hd
                        match qi, qh, qA with
                        | 0, _, _ => exact .inl ⟨rfl, op_mv rfl (hs 12 rfl)⟩
                        | 1, _, _ => exact .inl ⟨rfl, op_mv rfl (hs 5 rfl)⟩
                        | 2, _, _ => exact .inl ⟨rfl, ⟨_, op_mul (by unfold Fit; omega) rfl rfl (hd 1 rfl), rfl⟩⟩
                        | 3, _, _ => exact .inl ⟨rfl, pure_b (bool_eq (decide_eq_true hx)) (⟨_, op_lssI rfl (hd 0 rfl) (hd 2 rfl), rfl⟩)⟩
                        | qi + 4, h, _ => omega
                      · intro vs X1 hb hv hal hne
                        have HL0 := Hd.mk (HE.out.lt)
                        have HBW := HB
                        replace HB := Hd.mk (bel_then HB.out hb)
                        replace HE : Hd (Env X1 [⟨w.heap.size, 24, [.int .i64 Wd, .int .i64 Ht, .slice (some ad) xs.length k]⟩, ⟨w.heap.size + 1, 95, [.int .i64 ((lin true T).a), .int .i64 ((lin true T).b), .int .i64 ((lin true T).c), .int .i64 ((lin true T).d)]⟩, ⟨w.heap.size + 1 + 1, 112, [.bool false, .bool false, .bool false]⟩, ⟨g23, 4, bools bs ++ rest23⟩, ⟨g7, 112, [.bool e, .bool false, .bool false]⟩, ⟨g10, 4, bools bm ++ restN⟩, ⟨g11, 4, bools bg ++ restN⟩]) := ⟨HE.out.to hb⟩
                        have HLS := HL0
                        have e72 : vs 72 = .bool true := hv 3 (by decide) rfl
                        simp only [putAll, List.foldl_cons, List.foldl_nil, Act.put, List.setIfInBounds_toArray, List.set_cons_succ, List.set_cons_zero, List.drop_succ_cons, List.drop_zero, e72]
                        generalize vs 69 = s69
                        generalize vs 70 = s70
                        generalize vs 71 = s71
                        clear hv hal hne hb HL0 HBW HLS e72
                        go_upto_region 18 with fail
                        refine wp_region_vd 2 [75, 76] [0, 1] [] 84 [.int .i64 0, .int .i64 0] [isV (.int .i64 n), isV (.int .i64 ((-2) * n))] (by rfl) alloc_Z ?_ ?_
                        · intro qi qh qA aa wx hb hs hd
                          match qi, qh, qA with
                          | 0, _, _ => exact .inl ⟨rfl, op_mv rfl (hs 5 rfl)⟩
                          | 1, _, _ => exact .inl ⟨rfl, ⟨_, op_mul (by unfold Fit; omega) rfl rfl (hd 0 rfl), rfl⟩⟩
                          | qi + 2, h, _ => omega
                        · intro vs X2 hb hv hal hne
                          have HL0 := Hd.mk (HE.out.lt)
                          have HBW := HB
                          replace HB := Hd.mk (bel_then HB.out hb)
                          replace HE : Hd (Env X2 [⟨w.heap.size, 24, [.int .i64 Wd, .int .i64 Ht, .slice (some ad) xs.length k]⟩, ⟨w.heap.size + 1, 95, [.int .i64 ((lin true T).a), .int .i64 ((lin true T).b), .int .i64 ((lin true T).c), .int .i64 ((lin true T).d)]⟩, ⟨w.heap.size + 1 + 1, 112, [.bool false, .bool false, .bool false]⟩, ⟨g23, 4, bools bs ++ rest23⟩, ⟨g7, 112, [.bool e, .bool false, .bool false]⟩, ⟨g10, 4, bools bm ++ restN⟩, ⟨g11, 4, bools bg ++ restN⟩]) := ⟨HE.out.to hb⟩
                          have HLS := HL0
                          have e76 : vs 76 = .int .i64 ((-2) * n) := hv 1 (by decide) rfl
                          simp only [putAll, List.foldl_cons, List.foldl_nil, Act.put, List.setIfInBounds_toArray, List.set_cons_succ, List.set_cons_zero, List.drop_succ_cons, List.drop_zero, e76]
                          generalize vs 75 = s75
                          clear hv hal hne hb HL0 HBW HLS e76
                          go_wp2_with fail
                          go_loopw [13] (fun sy wr => ∃ (b : Int) (bm bg : List Bool), (-2 * n ≤ b ∧ b ≤ 2 * n) ∧ sy = .int .i64 b ∧ (Env wr [⟨w.heap.size, 24, [.int .i64 Wd, .int .i64 Ht, .slice (some ad) xs.length k]⟩, ⟨w.heap.size + 1, 95, [.int .i64 ((lin true T).a), .int .i64 ((lin true T).b), .int .i64 ((lin true T).c), .int .i64 ((lin true T).d)]⟩, ⟨w.heap.size + 1 + 1, 112, [.bool false, .bool false, .bool false]⟩, ⟨g23, 4, bools bs ++ rest23⟩, ⟨g7, 112, [.bool e, .bool false, .bool false]⟩, ⟨g10, 4, bools bm ++ restN⟩, ⟨g11, 4, bools bg ++ restN⟩] ∧ Below w.heap.size w wr) ∧ Mk (colF Wd Ht xs) T n (fun z => z = 0) bm a b ∧ Mk (colF Wd Ht xs) T n (fun z => z ≠ 0) bg a b) (fun sy _ => (2 * n - intOf sy).toNat)
                          case atStart => exact ⟨(-2) * n, _, _, by omega, rfl, ⟨HE.out, HB.out⟩, HMM.out, HGG.out⟩
                          case round =>
                            clear HMM HGG HB HE
                            clear bm bg
                            obtain ⟨b, bm, bg, hbn, rfl, ⟨he, hb⟩, hm, hgl⟩ := hrel
                            have HB := Hd.mk hb
                            have HE : Hd (Env wr [⟨w.heap.size, 24, [.int .i64 Wd, .int .i64 Ht, .slice (some ad) xs.length k]⟩, ⟨w.heap.size + 1, 95, [.int .i64 ((lin true T).a), .int .i64 ((lin true T).b), .int .i64 ((lin true T).c), .int .i64 ((lin true T).d)]⟩, ⟨w.heap.size + 1 + 1, 112, [.bool false, .bool false, .bool false]⟩, ⟨g23, 4, bools bs ++ rest23⟩, ⟨g7, 112, [.bool e, .bool false, .bool false]⟩, ⟨g10, 4, bools bm ++ restN⟩, ⟨g11, 4, bools bg ++ restN⟩]) := ⟨he⟩
                            have HMM := Hd.mk hm
                            have HGG := Hd.mk hgl
                            clear he hb hm hgl
                            by_cases hy : b < 2 * n
                            · skip
                              go_upto_region 19 with fail
                              refine wp_region_vd 4 [77, 78, 79, 80] [0, 1, 2, 3] [] 84 [.int .i64 0, .int .i64 0] [isV (.int .i64 b), isV (.int .i64 n), isV (.int .i64 (2 * n)), isV (.bool true)] (by rfl) alloc_Z ?_ ?_
                              · intro qi qh qA aa wx hb hs hd
                                match qi, qh, qA with
                                | 0, _, _ => exact .inl ⟨rfl, op_mv rfl (hs 13 rfl)⟩
                                | 1, _, _ => exact .inl ⟨rfl, op_mv rfl (hs 5 rfl)⟩
                                | 2, _, _ => exact .inl ⟨rfl, ⟨_, op_mul (by unfold Fit; omega) rfl rfl (hd 1 rfl), rfl⟩⟩
                                | 3, _, _ => exact .inl ⟨rfl, pure_b (bool_eq (decide_eq_true hy)) (⟨_, op_lssI rfl (hd 0 rfl) (hd 2 rfl), rfl⟩)⟩
                                | qi + 4, h, _ => omega
                              · intro vs X1 hb hv hal hne
                                have HL0 := Hd.mk (HE.out.lt)
                                have HBW := HB
                                replace HB := Hd.mk (bel_then HB.out hb)
                                replace HE : Hd (Env X1 [⟨w.heap.size, 24, [.int .i64 Wd, .int .i64 Ht, .slice (some ad) xs.length k]⟩, ⟨w.heap.size + 1, 95, [.int .i64 ((lin true T).a), .int .i64 ((lin true T).b), .int .i64 ((lin true T).c), .int .i64 ((lin true T).d)]⟩, ⟨w.heap.size + 1 + 1, 112, [.bool false, .bool false, .bool false]⟩, ⟨g23, 4, bools bs ++ rest23⟩, ⟨g7, 112, [.bool e, .bool false, .bool false]⟩, ⟨g10, 4, bools bm ++ restN⟩, ⟨g11, 4, bools bg ++ restN⟩]) := ⟨HE.out.to hb⟩
                                have HLS := HL0
                                have e80 : vs 80 = .bool true := hv 3 (by decide) rfl
                                simp only [putAll, List.foldl_cons, List.foldl_nil, Act.put, List.setIfInBounds_toArray, List.set_cons_succ, List.set_cons_zero, List.drop_succ_cons, List.drop_zero, e80]
                                generalize vs 77 = s77
                                generalize vs 78 = s78
                                generalize vs 79 = s79
                                clear hv hal hne hb HL0 HBW HLS e80
                                go_upto_region 21 with fail
                                refine wp_region_vd 7 [84, 85, 86, 87, 83, 88, 89] [1, 2, 4, 5, 6] [] 84 [.int .i64 0, .int .i64 0] [isV (.agg #[.int .i64 ((lin true T).a), .int .i64 ((lin true T).b), .int .i64 ((lin true T).c), .int .i64 ((lin true T).d)]), isV (.int .i64 a), isV (.int .i64 b), isP (isV (.int .i64 (far T a b))) (isV (.int .i64 (axi T a b))), isP (isV (.int .i64 (far T a b))) (isV (.int .i64 (axi T a b))), isV (.int .i64 (far T a b)), isV (.int .i64 (axi T a b))] (by rfl) alloc_Z ?_ ?_
                                · intro qi qh qA aa wx hb hs hd
                                  match qi, qh, qA with
                                  | 0, _, _ => exact .inl ⟨rfl, op_ldL rfl rfl (hs 3 rfl) ((HE.out.to hb).get 1 rfl)⟩
                                  | 1, _, _ => exact .inl ⟨rfl, op_mv rfl (hs 12 rfl)⟩
                                  | 2, _, _ => exact .inl ⟨rfl, op_mv rfl (hs 13 rfl)⟩
                                  | 3, _, _ => exact .inl ⟨rfl, op_call3 rfl rfl Try.call87 (by rw [(show aa.eval (.tmp 84) = .agg #[.int .i64 ((lin true T).a), .int .i64 ((lin true T).b), .int .i64 ((lin true T).c), .int .i64 ((lin true T).d)] from (hd 0 rfl)), (show aa.eval (.tmp 85) = .int .i64 a from (hd 1 rfl)), (show aa.eval (.tmp 86) = .int .i64 b from (hd 2 rfl))]; exact along_got T a b HT4.out (by omega) (by omega) _)⟩
                                  | 4, _, _ => exact .inl ⟨rfl, op_mv rfl (hd 3 rfl)⟩
                                  | 5, _, _ => exact .inl ⟨rfl, op_fst rfl (hd 4 rfl)⟩
                                  | 6, _, _ => exact .inl ⟨rfl, op_snd rfl (hd 4 rfl)⟩
                                  | qi + 7, h, _ => omega
                                · intro vs X2 hb hv hal hne
                                  have HL0 := Hd.mk (HE.out.lt)
                                  have HBW := HB
                                  replace HB := Hd.mk (bel_then HB.out hb)
                                  replace HE : Hd (Env X2 [⟨w.heap.size, 24, [.int .i64 Wd, .int .i64 Ht, .slice (some ad) xs.length k]⟩, ⟨w.heap.size + 1, 95, [.int .i64 ((lin true T).a), .int .i64 ((lin true T).b), .int .i64 ((lin true T).c), .int .i64 ((lin true T).d)]⟩, ⟨w.heap.size + 1 + 1, 112, [.bool false, .bool false, .bool false]⟩, ⟨g23, 4, bools bs ++ rest23⟩, ⟨g7, 112, [.bool e, .bool false, .bool false]⟩, ⟨g10, 4, bools bm ++ restN⟩, ⟨g11, 4, bools bg ++ restN⟩]) := ⟨HE.out.to hb⟩
                                  have HLS := HL0
                                  have e88 : vs 88 = .int .i64 (far T a b) := hv 5 (by decide) rfl
                                  have e89 : vs 89 = .int .i64 (axi T a b) := hv 6 (by decide) rfl
                                  simp only [putAll, List.foldl_cons, List.foldl_nil, Act.put, List.setIfInBounds_toArray, List.set_cons_succ, List.set_cons_zero, List.drop_succ_cons, List.drop_zero, e88, e89]
                                  generalize vs 84 = s84
                                  generalize vs 85 = s85
                                  generalize vs 86 = s86
                                  generalize vs 87 = s87
                                  generalize vs 83 = s83
                                  clear hv hal hne hb HL0 HBW HLS e88 e89
                                  have am := Int.emod_nonneg a (show n ≠ 0 by omega)
                                  have am2 := Int.emod_lt_of_pos a (show 0 < n by omega)
                                  have bm1 := Int.emod_nonneg b (show n ≠ 0 by omega)
                                  have bm2 := Int.emod_lt_of_pos b (show 0 < n by omega)
                                  have hij := idx_ok (n := n) (x := a % n) (y := b % n) (by omega) (by omega)
                                  have hnn := mul_b (a := n) (b := n) (A := 30) (B := 30) (by omega) (by omega)
                                  have HLK := Hd.mk (HSL.out (a % n) (b % n) ⟨am, am2⟩ ⟨bm1, bm2⟩)
                                  by_cases hsy : Sym (colF Wd Ht xs) true T a b
                                  · have HSY := Hd.mk hsy
                                    have HLV := Hd.mk (HLK.out.trans (bP_true.2 ((sym_mod HPER.out a b).2 hsy)))
                                    clear hsy
                                    by_cases h0 : axi T a b < 0
                                    · skip
                                      go_upto_region 22 with fail
                                      refine wp_region_vd 23 [90, 91, 92, 93, 94, 95, 96, 97, 98, 99, 100, 101, 102, 103, 104, 105, 106, 107, 108, 109, 110, 111, 112] [0, 1, 2, 4, 5, 6, 7, 9, 12, 13, 14, 15, 16, 17, 22] [] 84 [.int .i64 0, .int .i64 0] [isV (.slice (some ⟨g23, 0, none⟩) N2 N2), isV (.int .i64 a), isV (.int .i64 n), isV (.int .i64 (a % n)), isV (.int .i64 n), isV (.int .i64 ((a % n) * n)), isV (.int .i64 b), isV (.int .i64 n), isV (.int .i64 (b % n)), isV (.int .i64 (((a % n) * n) + (b % n))), isV (.pointer (some ⟨g23, (((a % n) * n) + (b % n)).toNat, none⟩)), isV (.bool true), isV (.bool false), isV (.bool false), isV (.int .i64 (axi T a b)), isV (.bool true), isV (.bool true), isV (.bool true), isV undef, isV undef, isV undef, isV undef, isV (.bool true)] (by rfl) alloc_Z ?_ ?_
                                      · intro qi qh qA aa wx hb hs hd
                                        match qi, qh, qA with
                                        | 0, _, _ => exact .inl ⟨rfl, op_mv rfl (hs 6 rfl)⟩
                                        | 1, _, _ => exact .inl ⟨rfl, op_mv rfl (hs 12 rfl)⟩
                                        | 2, _, _ => exact .inl ⟨rfl, op_mv rfl (hs 5 rfl)⟩
                                        | 3, _, _ => exact .inl ⟨rfl, op_call2 rfl rfl Try.call62 (by rw [(show aa.eval (.tmp 91) = .int .i64 a from (hd 1 rfl)), (show aa.eval (.tmp 92) = .int .i64 n from (hd 2 rfl))]; exact modulo_got a n (by omega) (by omega) _)⟩
                                        | 4, _, _ => exact .inl ⟨rfl, op_mv rfl (hs 5 rfl)⟩
                                        | 5, _, _ => exact .inl ⟨rfl, ⟨_, op_mul (by unfold Fit; omega) rfl (hd 3 rfl) (hd 4 rfl), rfl⟩⟩
                                        | 6, _, _ => exact .inl ⟨rfl, op_mv rfl (hs 13 rfl)⟩
                                        | 7, _, _ => exact .inl ⟨rfl, op_mv rfl (hs 5 rfl)⟩
                                        | 8, _, _ => exact .inl ⟨rfl, op_call2 rfl rfl Try.call62 (by rw [(show aa.eval (.tmp 96) = .int .i64 b from (hd 6 rfl)), (show aa.eval (.tmp 97) = .int .i64 n from (hd 7 rfl))]; exact modulo_got b n (by omega) (by omega) _)⟩
                                        | 9, _, _ => exact .inl ⟨rfl, ⟨_, op_add (by unfold Fit; omega) rfl (hd 5 rfl) (hd 8 rfl), rfl⟩⟩
                                        | 10, _, _ => exact .inl ⟨rfl, op_run rfl (op_idxB (by omega) (by have h0 := HN2.out; omega) rfl (hd 0 rfl) (hd 9 rfl) _) rfl⟩
                                        | 11, _, _ => exact .inl ⟨rfl, wp_b (bool_eq HLV.out) (op_ldB rfl rfl (hd 10 rfl) (BB.cell ⟨_, (HE.out.to hb).get 3 rfl⟩ (by have h1 := HSB.out; omega)))⟩
                                        | 12, _, _ => exact .inl ⟨rfl, ⟨_, op_not rfl (hd 11 rfl), rfl⟩⟩
                                        | 13, _, _ => exact .inl ⟨rfl, op_mv rfl (hd 12 rfl)⟩
                                        | 14, _, _ => exact .inl ⟨⟨rfl, .inl (hd 13 rfl)⟩, op_mv rfl (hs 15 rfl)⟩
                                        | 15, _, _ => exact .inl ⟨⟨rfl, .inl (hd 13 rfl)⟩, pure_b (bool_eq (decide_eq_true h0)) (⟨_, op_lssI rfl (hd 14 rfl) rfl, rfl⟩)⟩
                                        | 16, _, _ => exact .inl ⟨rfl, ⟨_, op_pickF rfl (hd 13 rfl) (hd 15 rfl), rfl⟩⟩
                                        | 17, _, _ => exact .inl ⟨rfl, op_mv rfl (hd 16 rfl)⟩
                                        | 18, _, _ => exact .inr ⟨⟨rfl, .inl (hd 17 rfl)⟩, rfl⟩
                                        | 19, _, _ => exact .inr ⟨⟨rfl, .inl (hd 17 rfl)⟩, rfl⟩
                                        | 20, _, _ => exact .inr ⟨⟨rfl, .inl (hd 17 rfl)⟩, rfl⟩
                                        | 21, _, _ => exact .inr ⟨⟨rfl, .inl (hd 17 rfl)⟩, rfl⟩
                                        | 22, _, _ => exact .inl ⟨rfl, ⟨_, op_pickT rfl (hd 17 rfl) rfl, rfl⟩⟩
                                        | qi + 23, h, _ => omega
                                      · intro vs X3 hb hv hal hne
                                        have HL0 := Hd.mk (HE.out.lt)
                                        have HBW := HB
                                        replace HB := Hd.mk (bel_then HB.out hb)
                                        replace HE : Hd (Env X3 [⟨w.heap.size, 24, [.int .i64 Wd, .int .i64 Ht, .slice (some ad) xs.length k]⟩, ⟨w.heap.size + 1, 95, [.int .i64 ((lin true T).a), .int .i64 ((lin true T).b), .int .i64 ((lin true T).c), .int .i64 ((lin true T).d)]⟩, ⟨w.heap.size + 1 + 1, 112, [.bool false, .bool false, .bool false]⟩, ⟨g23, 4, bools bs ++ rest23⟩, ⟨g7, 112, [.bool e, .bool false, .bool false]⟩, ⟨g10, 4, bools bm ++ restN⟩, ⟨g11, 4, bools bg ++ restN⟩]) := ⟨HE.out.to hb⟩
                                        have HLS := HL0
                                        have e112 : vs 112 = .bool true := hv 22 (by decide) rfl
                                        simp only [putAll, List.foldl_cons, List.foldl_nil, Act.put, List.setIfInBounds_toArray, List.set_cons_succ, List.set_cons_zero, List.drop_succ_cons, List.drop_zero, e112]
                                        generalize vs 90 = s90
                                        generalize vs 91 = s91
                                        generalize vs 92 = s92
                                        generalize vs 93 = s93
                                        generalize vs 94 = s94
                                        generalize vs 95 = s95
                                        generalize vs 96 = s96
                                        generalize vs 97 = s97
                                        generalize vs 98 = s98
                                        generalize vs 99 = s99
                                        generalize vs 100 = s100
                                        generalize vs 101 = s101
                                        generalize vs 102 = s102
                                        generalize vs 103 = s103
                                        generalize vs 104 = s104
                                        generalize vs 105 = s105
                                        generalize vs 106 = s106
                                        generalize vs 107 = s107
                                        generalize vs 108 = s108
                                        generalize vs 109 = s109
                                        generalize vs 110 = s110
                                        generalize vs 111 = s111
                                        clear hv hal hne hb HL0 HBW HLS e112
                                        go_upto_region 20 with fail
                                        refine wp_region_vd 2 [81, 82] [0, 1] [] 84 [.int .i64 0, .int .i64 0] [isV (.int .i64 b), isV (.int .i64 (b + 1))] (by rfl) alloc_Z ?_ ?_
                                        · intro qi qh qA aa wx hb hs hd
                                          match qi, qh, qA with
                                          | 0, _, _ => exact .inl ⟨rfl, op_mv rfl (hs 13 rfl)⟩
                                          | 1, _, _ => exact .inl ⟨rfl, ⟨_, op_add (by unfold Fit; omega) rfl (hd 0 rfl) rfl, rfl⟩⟩
                                          | qi + 2, h, _ => omega
                                        · intro vs X4 hb hv hal hne
                                          have HL0 := Hd.mk (HE.out.lt)
                                          have HBW := HB
                                          replace HB := Hd.mk (bel_then HB.out hb)
                                          replace HE : Hd (Env X4 [⟨w.heap.size, 24, [.int .i64 Wd, .int .i64 Ht, .slice (some ad) xs.length k]⟩, ⟨w.heap.size + 1, 95, [.int .i64 ((lin true T).a), .int .i64 ((lin true T).b), .int .i64 ((lin true T).c), .int .i64 ((lin true T).d)]⟩, ⟨w.heap.size + 1 + 1, 112, [.bool false, .bool false, .bool false]⟩, ⟨g23, 4, bools bs ++ rest23⟩, ⟨g7, 112, [.bool e, .bool false, .bool false]⟩, ⟨g10, 4, bools bm ++ restN⟩, ⟨g11, 4, bools bg ++ restN⟩]) := ⟨HE.out.to hb⟩
                                          have HLS := HL0
                                          have e82 : vs 82 = .int .i64 (b + 1) := hv 1 (by decide) rfl
                                          simp only [putAll, List.foldl_cons, List.foldl_nil, Act.put, List.setIfInBounds_toArray, List.set_cons_succ, List.set_cons_zero, List.drop_succ_cons, List.drop_zero, e82]
                                          generalize vs 81 = s81
                                          clear hv hal hne hb HL0 HBW HLS e82
                                          go_wp2_with fail
                                          go_roundw
                                          case rel => exact ⟨b + 1, _, _, by omega, rfl, ⟨HE.out, HB.out⟩, HMM.out.skip (fun hh => by omega), HGG.out.skip (fun hh => by omega)⟩
                                          case measure => simp [intOf]; omega
                                    · by_cases h2 : 2 * n ≤ axi T a b
                                      · skip
                                        go_upto_region 22 with fail
                                        refine wp_region_vd 23 [90, 91, 92, 93, 94, 95, 96, 97, 98, 99, 100, 101, 102, 103, 104, 105, 106, 107, 108, 109, 110, 111, 112] [0, 1, 2, 4, 5, 6, 7, 9, 12, 13, 14, 15, 16, 17, 18, 19, 20, 21, 22] [] 84 [.int .i64 0, .int .i64 0] [isV (.slice (some ⟨g23, 0, none⟩) N2 N2), isV (.int .i64 a), isV (.int .i64 n), isV (.int .i64 (a % n)), isV (.int .i64 n), isV (.int .i64 ((a % n) * n)), isV (.int .i64 b), isV (.int .i64 n), isV (.int .i64 (b % n)), isV (.int .i64 (((a % n) * n) + (b % n))), isV (.pointer (some ⟨g23, (((a % n) * n) + (b % n)).toNat, none⟩)), isV (.bool true), isV (.bool false), isV (.bool false), isV (.int .i64 (axi T a b)), isV (.bool false), isV (.bool false), isV (.bool false), isV (.int .i64 (axi T a b)), isV (.int .i64 n), isV (.int .i64 (2 * n)), isV (.bool true), isV (.bool true)] (by rfl) alloc_Z ?_ ?_
                                        · intro qi qh qA aa wx hb hs hd
                                          match qi, qh, qA with
                                          | 0, _, _ => exact .inl ⟨rfl, op_mv rfl (hs 6 rfl)⟩
                                          | 1, _, _ => exact .inl ⟨rfl, op_mv rfl (hs 12 rfl)⟩
                                          | 2, _, _ => exact .inl ⟨rfl, op_mv rfl (hs 5 rfl)⟩
                                          | 3, _, _ => exact .inl ⟨rfl, op_call2 rfl rfl Try.call62 (by rw [(show aa.eval (.tmp 91) = .int .i64 a from (hd 1 rfl)), (show aa.eval (.tmp 92) = .int .i64 n from (hd 2 rfl))]; exact modulo_got a n (by omega) (by omega) _)⟩
                                          | 4, _, _ => exact .inl ⟨rfl, op_mv rfl (hs 5 rfl)⟩
                                          | 5, _, _ => exact .inl ⟨rfl, ⟨_, op_mul (by unfold Fit; omega) rfl (hd 3 rfl) (hd 4 rfl), rfl⟩⟩
                                          | 6, _, _ => exact .inl ⟨rfl, op_mv rfl (hs 13 rfl)⟩
                                          | 7, _, _ => exact .inl ⟨rfl, op_mv rfl (hs 5 rfl)⟩
                                          | 8, _, _ => exact .inl ⟨rfl, op_call2 rfl rfl Try.call62 (by rw [(show aa.eval (.tmp 96) = .int .i64 b from (hd 6 rfl)), (show aa.eval (.tmp 97) = .int .i64 n from (hd 7 rfl))]; exact modulo_got b n (by omega) (by omega) _)⟩
                                          | 9, _, _ => exact .inl ⟨rfl, ⟨_, op_add (by unfold Fit; omega) rfl (hd 5 rfl) (hd 8 rfl), rfl⟩⟩
                                          | 10, _, _ => exact .inl ⟨rfl, op_run rfl (op_idxB (by omega) (by have h0 := HN2.out; omega) rfl (hd 0 rfl) (hd 9 rfl) _) rfl⟩
                                          | 11, _, _ => exact .inl ⟨rfl, wp_b (bool_eq HLV.out) (op_ldB rfl rfl (hd 10 rfl) (BB.cell ⟨_, (HE.out.to hb).get 3 rfl⟩ (by have h1 := HSB.out; omega)))⟩
                                          | 12, _, _ => exact .inl ⟨rfl, ⟨_, op_not rfl (hd 11 rfl), rfl⟩⟩
                                          | 13, _, _ => exact .inl ⟨rfl, op_mv rfl (hd 12 rfl)⟩
                                          | 14, _, _ => exact .inl ⟨⟨rfl, .inl (hd 13 rfl)⟩, op_mv rfl (hs 15 rfl)⟩
                                          | 15, _, _ => exact .inl ⟨⟨rfl, .inl (hd 13 rfl)⟩, pure_b (bool_eq (decide_eq_false h0)) (⟨_, op_lssI rfl (hd 14 rfl) rfl, rfl⟩)⟩
                                          | 16, _, _ => exact .inl ⟨rfl, ⟨_, op_pickF rfl (hd 13 rfl) (hd 15 rfl), rfl⟩⟩
                                          | 17, _, _ => exact .inl ⟨rfl, op_mv rfl (hd 16 rfl)⟩
                                          | 18, _, _ => exact .inl ⟨⟨rfl, .inl (hd 17 rfl)⟩, op_mv rfl (hs 15 rfl)⟩
                                          | 19, _, _ => exact .inl ⟨⟨rfl, .inl (hd 17 rfl)⟩, op_mv rfl (hs 5 rfl)⟩
                                          | 20, _, _ => exact .inl ⟨⟨rfl, .inl (hd 17 rfl)⟩, ⟨_, op_mul (by unfold Fit; omega) rfl rfl (hd 19 rfl), rfl⟩⟩
                                          | 21, _, _ => exact .inl ⟨⟨rfl, .inl (hd 17 rfl)⟩, pure_b (bool_eq (decide_eq_true h2)) (⟨_, op_geqI rfl (hd 18 rfl) (hd 20 rfl), rfl⟩)⟩
                                          | 22, _, _ => exact .inl ⟨rfl, ⟨_, op_pickF rfl (hd 17 rfl) (hd 21 rfl), rfl⟩⟩
                                          | qi + 23, h, _ => omega
                                        · intro vs X3 hb hv hal hne
                                          have HL0 := Hd.mk (HE.out.lt)
                                          have HBW := HB
                                          replace HB := Hd.mk (bel_then HB.out hb)
                                          replace HE : Hd (Env X3 [⟨w.heap.size, 24, [.int .i64 Wd, .int .i64 Ht, .slice (some ad) xs.length k]⟩, ⟨w.heap.size + 1, 95, [.int .i64 ((lin true T).a), .int .i64 ((lin true T).b), .int .i64 ((lin true T).c), .int .i64 ((lin true T).d)]⟩, ⟨w.heap.size + 1 + 1, 112, [.bool false, .bool false, .bool false]⟩, ⟨g23, 4, bools bs ++ rest23⟩, ⟨g7, 112, [.bool e, .bool false, .bool false]⟩, ⟨g10, 4, bools bm ++ restN⟩, ⟨g11, 4, bools bg ++ restN⟩]) := ⟨HE.out.to hb⟩
                                          have HLS := HL0
                                          have e112 : vs 112 = .bool true := hv 22 (by decide) rfl
                                          simp only [putAll, List.foldl_cons, List.foldl_nil, Act.put, List.setIfInBounds_toArray, List.set_cons_succ, List.set_cons_zero, List.drop_succ_cons, List.drop_zero, e112]
                                          generalize vs 90 = s90
                                          generalize vs 91 = s91
                                          generalize vs 92 = s92
                                          generalize vs 93 = s93
                                          generalize vs 94 = s94
                                          generalize vs 95 = s95
                                          generalize vs 96 = s96
                                          generalize vs 97 = s97
                                          generalize vs 98 = s98
                                          generalize vs 99 = s99
                                          generalize vs 100 = s100
                                          generalize vs 101 = s101
                                          generalize vs 102 = s102
                                          generalize vs 103 = s103
                                          generalize vs 104 = s104
                                          generalize vs 105 = s105
                                          generalize vs 106 = s106
                                          generalize vs 107 = s107
                                          generalize vs 108 = s108
                                          generalize vs 109 = s109
                                          generalize vs 110 = s110
                                          generalize vs 111 = s111
                                          clear hv hal hne hb HL0 HBW HLS e112
                                          go_upto_region 20 with fail
                                          refine wp_region_vd 2 [81, 82] [0, 1] [] 84 [.int .i64 0, .int .i64 0] [isV (.int .i64 b), isV (.int .i64 (b + 1))] (by rfl) alloc_Z ?_ ?_
                                          · intro qi qh qA aa wx hb hs hd
                                            match qi, qh, qA with
                                            | 0, _, _ => exact .inl ⟨rfl, op_mv rfl (hs 13 rfl)⟩
                                            | 1, _, _ => exact .inl ⟨rfl, ⟨_, op_add (by unfold Fit; omega) rfl (hd 0 rfl) rfl, rfl⟩⟩
                                            | qi + 2, h, _ => omega
                                          · intro vs X4 hb hv hal hne
                                            have HL0 := Hd.mk (HE.out.lt)
                                            have HBW := HB
                                            replace HB := Hd.mk (bel_then HB.out hb)
                                            replace HE : Hd (Env X4 [⟨w.heap.size, 24, [.int .i64 Wd, .int .i64 Ht, .slice (some ad) xs.length k]⟩, ⟨w.heap.size + 1, 95, [.int .i64 ((lin true T).a), .int .i64 ((lin true T).b), .int .i64 ((lin true T).c), .int .i64 ((lin true T).d)]⟩, ⟨w.heap.size + 1 + 1, 112, [.bool false, .bool false, .bool false]⟩, ⟨g23, 4, bools bs ++ rest23⟩, ⟨g7, 112, [.bool e, .bool false, .bool false]⟩, ⟨g10, 4, bools bm ++ restN⟩, ⟨g11, 4, bools bg ++ restN⟩]) := ⟨HE.out.to hb⟩
                                            have HLS := HL0
                                            have e82 : vs 82 = .int .i64 (b + 1) := hv 1 (by decide) rfl
                                            simp only [putAll, List.foldl_cons, List.foldl_nil, Act.put, List.setIfInBounds_toArray, List.set_cons_succ, List.set_cons_zero, List.drop_succ_cons, List.drop_zero, e82]
                                            generalize vs 81 = s81
                                            clear hv hal hne hb HL0 HBW HLS e82
                                            go_wp2_with fail
                                            go_roundw
                                            case rel => exact ⟨b + 1, _, _, by omega, rfl, ⟨HE.out, HB.out⟩, HMM.out.skip (fun hh => by omega), HGG.out.skip (fun hh => by omega)⟩
                                            case measure => simp [intOf]; omega
                                      · have hbl := HMM.out.1
                                        have hgl := HGG.out.1
                                        have HW2 : Hd (Win2 n a b) := ⟨⟨⟨by omega, hx⟩, by omega, hy⟩⟩
                                        go_upto_region 22 with fail
                                        refine wp_region_vd 23 [90, 91, 92, 93, 94, 95, 96, 97, 98, 99, 100, 101, 102, 103, 104, 105, 106, 107, 108, 109, 110, 111, 112] [0, 1, 2, 4, 5, 6, 7, 9, 12, 13, 14, 15, 16, 17, 18, 19, 20, 21, 22] [] 84 [.int .i64 0, .int .i64 0] [isV (.slice (some ⟨g23, 0, none⟩) N2 N2), isV (.int .i64 a), isV (.int .i64 n), isV (.int .i64 (a % n)), isV (.int .i64 n), isV (.int .i64 ((a % n) * n)), isV (.int .i64 b), isV (.int .i64 n), isV (.int .i64 (b % n)), isV (.int .i64 (((a % n) * n) + (b % n))), isV (.pointer (some ⟨g23, (((a % n) * n) + (b % n)).toNat, none⟩)), isV (.bool true), isV (.bool false), isV (.bool false), isV (.int .i64 (axi T a b)), isV (.bool false), isV (.bool false), isV (.bool false), isV (.int .i64 (axi T a b)), isV (.int .i64 n), isV (.int .i64 (2 * n)), isV (.bool false), isV (.bool false)] (by rfl) alloc_Z ?_ ?_
                                        · intro qi qh qA aa wx hb hs hd
                                          match qi, qh, qA with
                                          | 0, _, _ => exact .inl ⟨rfl, op_mv rfl (hs 6 rfl)⟩
                                          | 1, _, _ => exact .inl ⟨rfl, op_mv rfl (hs 12 rfl)⟩
                                          | 2, _, _ => exact .inl ⟨rfl, op_mv rfl (hs 5 rfl)⟩
                                          | 3, _, _ => exact .inl ⟨rfl, op_call2 rfl rfl Try.call62 (by rw [(show aa.eval (.tmp 91) = .int .i64 a from (hd 1 rfl)), (show aa.eval (.tmp 92) = .int .i64 n from (hd 2 rfl))]; exact modulo_got a n (by omega) (by omega) _)⟩
                                          | 4, _, _ => exact .inl ⟨rfl, op_mv rfl (hs 5 rfl)⟩
                                          | 5, _, _ => exact .inl ⟨rfl, ⟨_, op_mul (by unfold Fit; omega) rfl (hd 3 rfl) (hd 4 rfl), rfl⟩⟩
                                          | 6, _, _ => exact .inl ⟨rfl, op_mv rfl (hs 13 rfl)⟩
                                          | 7, _, _ => exact .inl ⟨rfl, op_mv rfl (hs 5 rfl)⟩
                                          | 8, _, _ => exact .inl ⟨rfl, op_call2 rfl rfl Try.call62 (by rw [(show aa.eval (.tmp 96) = .int .i64 b from (hd 6 rfl)), (show aa.eval (.tmp 97) = .int .i64 n from (hd 7 rfl))]; exact modulo_got b n (by omega) (by omega) _)⟩
                                          | 9, _, _ => exact .inl ⟨rfl, ⟨_, op_add (by unfold Fit; omega) rfl (hd 5 rfl) (hd 8 rfl), rfl⟩⟩
                                          | 10, _, _ => exact .inl ⟨rfl, op_run rfl (op_idxB (by omega) (by have h0 := HN2.out; omega) rfl (hd 0 rfl) (hd 9 rfl) _) rfl⟩
                                          | 11, _, _ => exact .inl ⟨rfl, wp_b (bool_eq HLV.out) (op_ldB rfl rfl (hd 10 rfl) (BB.cell ⟨_, (HE.out.to hb).get 3 rfl⟩ (by have h1 := HSB.out; omega)))⟩
                                          | 12, _, _ => exact .inl ⟨rfl, ⟨_, op_not rfl (hd 11 rfl), rfl⟩⟩
                                          | 13, _, _ => exact .inl ⟨rfl, op_mv rfl (hd 12 rfl)⟩
                                          | 14, _, _ => exact .inl ⟨⟨rfl, .inl (hd 13 rfl)⟩, op_mv rfl (hs 15 rfl)⟩
                                          | 15, _, _ => exact .inl ⟨⟨rfl, .inl (hd 13 rfl)⟩, pure_b (bool_eq (decide_eq_false h0)) (⟨_, op_lssI rfl (hd 14 rfl) rfl, rfl⟩)⟩
                                          | 16, _, _ => exact .inl ⟨rfl, ⟨_, op_pickF rfl (hd 13 rfl) (hd 15 rfl), rfl⟩⟩
                                          | 17, _, _ => exact .inl ⟨rfl, op_mv rfl (hd 16 rfl)⟩
                                          | 18, _, _ => exact .inl ⟨⟨rfl, .inl (hd 17 rfl)⟩, op_mv rfl (hs 15 rfl)⟩
                                          | 19, _, _ => exact .inl ⟨⟨rfl, .inl (hd 17 rfl)⟩, op_mv rfl (hs 5 rfl)⟩
                                          | 20, _, _ => exact .inl ⟨⟨rfl, .inl (hd 17 rfl)⟩, ⟨_, op_mul (by unfold Fit; omega) rfl rfl (hd 19 rfl), rfl⟩⟩
                                          | 21, _, _ => exact .inl ⟨⟨rfl, .inl (hd 17 rfl)⟩, pure_b (bool_eq (decide_eq_false h2)) (⟨_, op_geqI rfl (hd 18 rfl) (hd 20 rfl), rfl⟩)⟩
                                          | 22, _, _ => exact .inl ⟨rfl, ⟨_, op_pickF rfl (hd 17 rfl) (hd 21 rfl), rfl⟩⟩
                                          | qi + 23, h, _ => omega
                                        · intro vs X3 hb hv hal hne
                                          have HL0 := Hd.mk (HE.out.lt)
                                          have HBW := HB
                                          replace HB := Hd.mk (bel_then HB.out hb)
                                          replace HE : Hd (Env X3 [⟨w.heap.size, 24, [.int .i64 Wd, .int .i64 Ht, .slice (some ad) xs.length k]⟩, ⟨w.heap.size + 1, 95, [.int .i64 ((lin true T).a), .int .i64 ((lin true T).b), .int .i64 ((lin true T).c), .int .i64 ((lin true T).d)]⟩, ⟨w.heap.size + 1 + 1, 112, [.bool false, .bool false, .bool false]⟩, ⟨g23, 4, bools bs ++ rest23⟩, ⟨g7, 112, [.bool e, .bool false, .bool false]⟩, ⟨g10, 4, bools bm ++ restN⟩, ⟨g11, 4, bools bg ++ restN⟩]) := ⟨HE.out.to hb⟩
                                          have HLS := HL0
                                          have e112 : vs 112 = .bool false := hv 22 (by decide) rfl
                                          simp only [putAll, List.foldl_cons, List.foldl_nil, Act.put, List.setIfInBounds_toArray, List.set_cons_succ, List.set_cons_zero, List.drop_succ_cons, List.drop_zero, e112]
                                          generalize vs 90 = s90
                                          generalize vs 91 = s91
                                          generalize vs 92 = s92
                                          generalize vs 93 = s93
                                          generalize vs 94 = s94
                                          generalize vs 95 = s95
                                          generalize vs 96 = s96
                                          generalize vs 97 = s97
                                          generalize vs 98 = s98
                                          generalize vs 99 = s99
                                          generalize vs 100 = s100
                                          generalize vs 101 = s101
                                          generalize vs 102 = s102
                                          generalize vs 103 = s103
                                          generalize vs 104 = s104
                                          generalize vs 105 = s105
                                          generalize vs 106 = s106
                                          generalize vs 107 = s107
                                          generalize vs 108 = s108
                                          generalize vs 109 = s109
                                          generalize vs 110 = s110
                                          generalize vs 111 = s111
                                          clear hv hal hne hb HL0 HBW HLS e112
                                          by_cases hf : far T a b = 0
                                          · have HF := Hd.mk hf
                                            clear hf
                                            go_upto_region 23 with fail
                                            refine wp_region_vd 2 [113, 114] [0, 1] [] 84 [.int .i64 0, .int .i64 0] [isV (.int .i64 (far T a b)), isV (.bool true)] (by rfl) alloc_Z ?_ ?_
                                            · intro qi qh qA aa wx hb hs hd
                                              match qi, qh, qA with
                                              | 0, _, _ => exact .inl ⟨rfl, op_mv rfl (hs 14 rfl)⟩
                                              | 1, _, _ => exact .inl ⟨rfl, pure_b (bool_eq (decide_eq_true HF.out)) (⟨_, op_eqlI rfl (hd 0 rfl) rfl, rfl⟩)⟩
                                              | qi + 2, h, _ => omega
                                            · intro vs X4 hb hv hal hne
                                              have HL0 := Hd.mk (HE.out.lt)
                                              have HBW := HB
                                              replace HB := Hd.mk (bel_then HB.out hb)
                                              replace HE : Hd (Env X4 [⟨w.heap.size, 24, [.int .i64 Wd, .int .i64 Ht, .slice (some ad) xs.length k]⟩, ⟨w.heap.size + 1, 95, [.int .i64 ((lin true T).a), .int .i64 ((lin true T).b), .int .i64 ((lin true T).c), .int .i64 ((lin true T).d)]⟩, ⟨w.heap.size + 1 + 1, 112, [.bool false, .bool false, .bool false]⟩, ⟨g23, 4, bools bs ++ rest23⟩, ⟨g7, 112, [.bool e, .bool false, .bool false]⟩, ⟨g10, 4, bools bm ++ restN⟩, ⟨g11, 4, bools bg ++ restN⟩]) := ⟨HE.out.to hb⟩
                                              have HLS := HL0
                                              have e114 : vs 114 = .bool true := hv 1 (by decide) rfl
                                              simp only [putAll, List.foldl_cons, List.foldl_nil, Act.put, List.setIfInBounds_toArray, List.set_cons_succ, List.set_cons_zero, List.drop_succ_cons, List.drop_zero, e114]
                                              generalize vs 113 = s113
                                              clear hv hal hne hb HL0 HBW HLS e114
                                              go_upto_region 24 with fail
                                              refine wp_region_vd 3 [115, 116, 117] [0, 1] [] 84 [.int .i64 0, .int .i64 0] [isV (.slice (some ⟨g10, 0, none⟩) N1 N1), isV (.int .i64 (axi T a b)), isV (.pointer (some ⟨g10, (axi T a b).toNat, none⟩))] (by rfl) alloc_Z ?_ ?_
                                              · intro qi qh qA aa wx hb hs hd
                                                match qi, qh, qA with
                                                | 0, _, _ => exact .inl ⟨rfl, op_mv rfl (hs 10 rfl)⟩
                                                | 1, _, _ => exact .inl ⟨rfl, op_mv rfl (hs 15 rfl)⟩
                                                | 2, _, _ => exact .inl ⟨rfl, op_run rfl (op_idxB (by omega) (by have h5 := HN1.out; omega) rfl (hd 0 rfl) (hd 1 rfl) _) rfl⟩
                                                | qi + 3, h, _ => omega
                                              · intro vs X5 hb hv hal hne
                                                have HL0 := Hd.mk (HE.out.lt)
                                                have HBW := HB
                                                replace HB := Hd.mk (bel_then HB.out hb)
                                                replace HE : Hd (Env X5 [⟨w.heap.size, 24, [.int .i64 Wd, .int .i64 Ht, .slice (some ad) xs.length k]⟩, ⟨w.heap.size + 1, 95, [.int .i64 ((lin true T).a), .int .i64 ((lin true T).b), .int .i64 ((lin true T).c), .int .i64 ((lin true T).d)]⟩, ⟨w.heap.size + 1 + 1, 112, [.bool false, .bool false, .bool false]⟩, ⟨g23, 4, bools bs ++ rest23⟩, ⟨g7, 112, [.bool e, .bool false, .bool false]⟩, ⟨g10, 4, bools bm ++ restN⟩, ⟨g11, 4, bools bg ++ restN⟩]) := ⟨HE.out.to hb⟩
                                                have HLS := HL0
                                                have e117 : vs 117 = .pointer (some ⟨g10, (axi T a b).toNat, none⟩) := hv 2 (by decide) rfl
                                                simp only [putAll, List.foldl_cons, List.foldl_nil, Act.put, List.setIfInBounds_toArray, List.set_cons_succ, List.set_cons_zero, List.drop_succ_cons, List.drop_zero, e117]
                                                generalize vs 115 = s115
                                                generalize vs 116 = s116
                                                clear hv hal hne hb HL0 HBW HLS e117
                                                refine wpList_st rfl rfl rfl rfl rfl (sto_BB (b := true) ⟨_, HE.out.get 5 rfl⟩ (by omega)) ?_
                                                have HE' : Env (putL X5 g10 ((axi T a b).toNat) [.bool true]) [⟨w.heap.size, 24, [.int .i64 Wd, .int .i64 Ht, .slice (some ad) xs.length k]⟩, ⟨w.heap.size + 1, 95, [.int .i64 ((lin true T).a), .int .i64 ((lin true T).b), .int .i64 ((lin true T).c), .int .i64 ((lin true T).d)]⟩, ⟨w.heap.size + 1 + 1, 112, [.bool false, .bool false, .bool false]⟩, ⟨g23, 4, bools bs ++ rest23⟩, ⟨g7, 112, [.bool e, .bool false, .bool false]⟩, ⟨g10, 4, bools (bm.set ((axi T a b).toNat) true) ++ restN⟩, ⟨g11, 4, bools bg ++ restN⟩] := HE.out.putBs (b := true) 5 rfl (by omega)
                                                have HB' := putL_below (show w.heap.size ≤ g10 from G10.out) [.bool true] _ ((axi T a b).toNat) HB.out
                                                generalize putL X5 g10 ((axi T a b).toNat) [.bool true] = X6 at *
                                                replace HE := Hd.mk HE'
                                                replace HB := Hd.mk HB'
                                                clear HE' HB'
                                                go_upto_region 20 with fail
                                                refine wp_region_vd 2 [81, 82] [0, 1] [] 84 [.int .i64 0, .int .i64 0] [isV (.int .i64 b), isV (.int .i64 (b + 1))] (by rfl) alloc_Z ?_ ?_
                                                · intro qi qh qA aa wx hb hs hd
                                                  match qi, qh, qA with
                                                  | 0, _, _ => exact .inl ⟨rfl, op_mv rfl (hs 13 rfl)⟩
                                                  | 1, _, _ => exact .inl ⟨rfl, ⟨_, op_add (by unfold Fit; omega) rfl (hd 0 rfl) rfl, rfl⟩⟩
                                                  | qi + 2, h, _ => omega
                                                · intro vs X7 hb hv hal hne
                                                  have HL0 := Hd.mk (HE.out.lt)
                                                  have HBW := HB
                                                  replace HB := Hd.mk (bel_then HB.out hb)
                                                  replace HE : Hd (Env X7 [⟨w.heap.size, 24, [.int .i64 Wd, .int .i64 Ht, .slice (some ad) xs.length k]⟩, ⟨w.heap.size + 1, 95, [.int .i64 ((lin true T).a), .int .i64 ((lin true T).b), .int .i64 ((lin true T).c), .int .i64 ((lin true T).d)]⟩, ⟨w.heap.size + 1 + 1, 112, [.bool false, .bool false, .bool false]⟩, ⟨g23, 4, bools bs ++ rest23⟩, ⟨g7, 112, [.bool e, .bool false, .bool false]⟩, ⟨g10, 4, bools (bm.set ((axi T a b).toNat) true) ++ restN⟩, ⟨g11, 4, bools bg ++ restN⟩]) := ⟨HE.out.to hb⟩
                                                  have HLS := HL0
                                                  have e82 : vs 82 = .int .i64 (b + 1) := hv 1 (by decide) rfl
                                                  simp only [putAll, List.foldl_cons, List.foldl_nil, Act.put, List.setIfInBounds_toArray, List.set_cons_succ, List.set_cons_zero, List.drop_succ_cons, List.drop_zero, e82]
                                                  generalize vs 81 = s81
                                                  clear hv hal hne hb HL0 HBW HLS e82
                                                  go_wp2_with fail
                                                  go_roundw
                                                  case rel => exact ⟨b + 1, _, _, by omega, rfl, ⟨HE.out, HB.out⟩, HMM.out.hit HW2.out HSY.out HF.out (by omega), HGG.out.skip (fun hh => hh.2.2 HF.out)⟩
                                                  case measure => simp [intOf]; omega
                                          · have HF := Hd.mk hf
                                            clear hf
                                            go_upto_region 23 with fail
                                            refine wp_region_vd 2 [113, 114] [0, 1] [] 84 [.int .i64 0, .int .i64 0] [isV (.int .i64 (far T a b)), isV (.bool false)] (by rfl) alloc_Z ?_ ?_
                                            · intro qi qh qA aa wx hb hs hd
                                              match qi, qh, qA with
                                              | 0, _, _ => exact .inl ⟨rfl, op_mv rfl (hs 14 rfl)⟩
                                              | 1, _, _ => exact .inl ⟨rfl, pure_b (bool_eq (decide_eq_false HF.out)) (⟨_, op_eqlI rfl (hd 0 rfl) rfl, rfl⟩)⟩
                                              | qi + 2, h, _ => omega
                                            · intro vs X4 hb hv hal hne
                                              have HL0 := Hd.mk (HE.out.lt)
                                              have HBW := HB
                                              replace HB := Hd.mk (bel_then HB.out hb)
                                              replace HE : Hd (Env X4 [⟨w.heap.size, 24, [.int .i64 Wd, .int .i64 Ht, .slice (some ad) xs.length k]⟩, ⟨w.heap.size + 1, 95, [.int .i64 ((lin true T).a), .int .i64 ((lin true T).b), .int .i64 ((lin true T).c), .int .i64 ((lin true T).d)]⟩, ⟨w.heap.size + 1 + 1, 112, [.bool false, .bool false, .bool false]⟩, ⟨g23, 4, bools bs ++ rest23⟩, ⟨g7, 112, [.bool e, .bool false, .bool false]⟩, ⟨g10, 4, bools bm ++ restN⟩, ⟨g11, 4, bools bg ++ restN⟩]) := ⟨HE.out.to hb⟩
                                              have HLS := HL0
                                              have e114 : vs 114 = .bool false := hv 1 (by decide) rfl
                                              simp only [putAll, List.foldl_cons, List.foldl_nil, Act.put, List.setIfInBounds_toArray, List.set_cons_succ, List.set_cons_zero, List.drop_succ_cons, List.drop_zero, e114]
                                              generalize vs 113 = s113
                                              clear hv hal hne hb HL0 HBW HLS e114
                                              go_upto_region 25 with fail
                                              refine wp_region_vd 3 [118, 119, 120] [0, 1] [] 84 [.int .i64 0, .int .i64 0] [isV (.slice (some ⟨g11, 0, none⟩) N1 N1), isV (.int .i64 (axi T a b)), isV (.pointer (some ⟨g11, (axi T a b).toNat, none⟩))] (by rfl) alloc_Z ?_ ?_
                                              · intro qi qh qA aa wx hb hs hd
                                                match qi, qh, qA with
                                                | 0, _, _ => exact .inl ⟨rfl, op_mv rfl (hs 11 rfl)⟩
                                                | 1, _, _ => exact .inl ⟨rfl, op_mv rfl (hs 15 rfl)⟩
                                                | 2, _, _ => exact .inl ⟨rfl, op_run rfl (op_idxB (by omega) (by have h5 := HN1.out; omega) rfl (hd 0 rfl) (hd 1 rfl) _) rfl⟩
                                                | qi + 3, h, _ => omega
                                              · intro vs X5 hb hv hal hne
                                                have HL0 := Hd.mk (HE.out.lt)
                                                have HBW := HB
                                                replace HB := Hd.mk (bel_then HB.out hb)
                                                replace HE : Hd (Env X5 [⟨w.heap.size, 24, [.int .i64 Wd, .int .i64 Ht, .slice (some ad) xs.length k]⟩, ⟨w.heap.size + 1, 95, [.int .i64 ((lin true T).a), .int .i64 ((lin true T).b), .int .i64 ((lin true T).c), .int .i64 ((lin true T).d)]⟩, ⟨w.heap.size + 1 + 1, 112, [.bool false, .bool false, .bool false]⟩, ⟨g23, 4, bools bs ++ rest23⟩, ⟨g7, 112, [.bool e, .bool false, .bool false]⟩, ⟨g10, 4, bools bm ++ restN⟩, ⟨g11, 4, bools bg ++ restN⟩]) := ⟨HE.out.to hb⟩
                                                have HLS := HL0
                                                have e120 : vs 120 = .pointer (some ⟨g11, (axi T a b).toNat, none⟩) := hv 2 (by decide) rfl
                                                simp only [putAll, List.foldl_cons, List.foldl_nil, Act.put, List.setIfInBounds_toArray, List.set_cons_succ, List.set_cons_zero, List.drop_succ_cons, List.drop_zero, e120]
                                                generalize vs 118 = s118
                                                generalize vs 119 = s119
                                                clear hv hal hne hb HL0 HBW HLS e120
                                                refine wpList_st rfl rfl rfl rfl rfl (sto_BB (b := true) ⟨_, HE.out.get 6 rfl⟩ (by omega)) ?_
                                                have HE' : Env (putL X5 g11 ((axi T a b).toNat) [.bool true]) [⟨w.heap.size, 24, [.int .i64 Wd, .int .i64 Ht, .slice (some ad) xs.length k]⟩, ⟨w.heap.size + 1, 95, [.int .i64 ((lin true T).a), .int .i64 ((lin true T).b), .int .i64 ((lin true T).c), .int .i64 ((lin true T).d)]⟩, ⟨w.heap.size + 1 + 1, 112, [.bool false, .bool false, .bool false]⟩, ⟨g23, 4, bools bs ++ rest23⟩, ⟨g7, 112, [.bool e, .bool false, .bool false]⟩, ⟨g10, 4, bools bm ++ restN⟩, ⟨g11, 4, bools (bg.set ((axi T a b).toNat) true) ++ restN⟩] := HE.out.putBs (b := true) 6 rfl (by omega)
                                                have HB' := putL_below (show w.heap.size ≤ g11 from G11.out) [.bool true] _ ((axi T a b).toNat) HB.out
                                                generalize putL X5 g11 ((axi T a b).toNat) [.bool true] = X6 at *
                                                replace HE := Hd.mk HE'
                                                replace HB := Hd.mk HB'
                                                clear HE' HB'
                                                go_upto_region 20 with fail
                                                refine wp_region_vd 2 [81, 82] [0, 1] [] 84 [.int .i64 0, .int .i64 0] [isV (.int .i64 b), isV (.int .i64 (b + 1))] (by rfl) alloc_Z ?_ ?_
                                                · intro qi qh qA aa wx hb hs hd
                                                  match qi, qh, qA with
                                                  | 0, _, _ => exact .inl ⟨rfl, op_mv rfl (hs 13 rfl)⟩
                                                  | 1, _, _ => exact .inl ⟨rfl, ⟨_, op_add (by unfold Fit; omega) rfl (hd 0 rfl) rfl, rfl⟩⟩
                                                  | qi + 2, h, _ => omega
                                                · intro vs X7 hb hv hal hne
                                                  have HL0 := Hd.mk (HE.out.lt)
                                                  have HBW := HB
                                                  replace HB := Hd.mk (bel_then HB.out hb)
                                                  replace HE : Hd (Env X7 [⟨w.heap.size, 24, [.int .i64 Wd, .int .i64 Ht, .slice (some ad) xs.length k]⟩, ⟨w.heap.size + 1, 95, [.int .i64 ((lin true T).a), .int .i64 ((lin true T).b), .int .i64 ((lin true T).c), .int .i64 ((lin true T).d)]⟩, ⟨w.heap.size + 1 + 1, 112, [.bool false, .bool false, .bool false]⟩, ⟨g23, 4, bools bs ++ rest23⟩, ⟨g7, 112, [.bool e, .bool false, .bool false]⟩, ⟨g10, 4, bools bm ++ restN⟩, ⟨g11, 4, bools (bg.set ((axi T a b).toNat) true) ++ restN⟩]) := ⟨HE.out.to hb⟩
                                                  have HLS := HL0
                                                  have e82 : vs 82 = .int .i64 (b + 1) := hv 1 (by decide) rfl
                                                  simp only [putAll, List.foldl_cons, List.foldl_nil, Act.put, List.setIfInBounds_toArray, List.set_cons_succ, List.set_cons_zero, List.drop_succ_cons, List.drop_zero, e82]
                                                  generalize vs 81 = s81
                                                  clear hv hal hne hb HL0 HBW HLS e82
                                                  go_wp2_with fail
                                                  go_roundw
                                                  case rel => exact ⟨b + 1, _, _, by omega, rfl, ⟨HE.out, HB.out⟩, HMM.out.skip (fun hh => HF.out hh.2.2), HGG.out.hit HW2.out HSY.out HF.out (by omega)⟩
                                                  case measure => simp [intOf]; omega
                                  · have HSY := Hd.mk hsy
                                    have HLV := Hd.mk (HLK.out.trans (bP_false.2 (fun hh => hsy ((sym_mod HPER.out a b).1 hh))))
                                    clear hsy
                                    go_upto_region 22 with fail
                                    refine wp_region_vd 23 [90, 91, 92, 93, 94, 95, 96, 97, 98, 99, 100, 101, 102, 103, 104, 105, 106, 107, 108, 109, 110, 111, 112] [0, 1, 2, 4, 5, 6, 7, 9, 12, 13, 16, 17, 22] [] 84 [.int .i64 0, .int .i64 0] [isV (.slice (some ⟨g23, 0, none⟩) N2 N2), isV (.int .i64 a), isV (.int .i64 n), isV (.int .i64 (a % n)), isV (.int .i64 n), isV (.int .i64 ((a % n) * n)), isV (.int .i64 b), isV (.int .i64 n), isV (.int .i64 (b % n)), isV (.int .i64 (((a % n) * n) + (b % n))), isV (.pointer (some ⟨g23, (((a % n) * n) + (b % n)).toNat, none⟩)), isV (.bool false), isV (.bool true), isV (.bool true), isV undef, isV undef, isV (.bool true), isV (.bool true), isV undef, isV undef, isV undef, isV undef, isV (.bool true)] (by rfl) alloc_Z ?_ ?_
                                    · intro qi qh qA aa wx hb hs hd
                                      match qi, qh, qA with
                                      | 0, _, _ => exact .inl ⟨rfl, op_mv rfl (hs 6 rfl)⟩
                                      | 1, _, _ => exact .inl ⟨rfl, op_mv rfl (hs 12 rfl)⟩
                                      | 2, _, _ => exact .inl ⟨rfl, op_mv rfl (hs 5 rfl)⟩
                                      | 3, _, _ => exact .inl ⟨rfl, op_call2 rfl rfl Try.call62 (by rw [(show aa.eval (.tmp 91) = .int .i64 a from (hd 1 rfl)), (show aa.eval (.tmp 92) = .int .i64 n from (hd 2 rfl))]; exact modulo_got a n (by omega) (by omega) _)⟩
                                      | 4, _, _ => exact .inl ⟨rfl, op_mv rfl (hs 5 rfl)⟩
                                      | 5, _, _ => exact .inl ⟨rfl, ⟨_, op_mul (by unfold Fit; omega) rfl (hd 3 rfl) (hd 4 rfl), rfl⟩⟩
                                      | 6, _, _ => exact .inl ⟨rfl, op_mv rfl (hs 13 rfl)⟩
                                      | 7, _, _ => exact .inl ⟨rfl, op_mv rfl (hs 5 rfl)⟩
                                      | 8, _, _ => exact .inl ⟨rfl, op_call2 rfl rfl Try.call62 (by rw [(show aa.eval (.tmp 96) = .int .i64 b from (hd 6 rfl)), (show aa.eval (.tmp 97) = .int .i64 n from (hd 7 rfl))]; exact modulo_got b n (by omega) (by omega) _)⟩
                                      | 9, _, _ => exact .inl ⟨rfl, ⟨_, op_add (by unfold Fit; omega) rfl (hd 5 rfl) (hd 8 rfl), rfl⟩⟩
                                      | 10, _, _ => exact .inl ⟨rfl, op_run rfl (op_idxB (by omega) (by have h0 := HN2.out; omega) rfl (hd 0 rfl) (hd 9 rfl) _) rfl⟩
                                      | 11, _, _ => exact .inl ⟨rfl, wp_b (bool_eq HLV.out) (op_ldB rfl rfl (hd 10 rfl) (BB.cell ⟨_, (HE.out.to hb).get 3 rfl⟩ (by have h1 := HSB.out; omega)))⟩
                                      | 12, _, _ => exact .inl ⟨rfl, ⟨_, op_not rfl (hd 11 rfl), rfl⟩⟩
                                      | 13, _, _ => exact .inl ⟨rfl, op_mv rfl (hd 12 rfl)⟩
                                      | 14, _, _ => exact .inr ⟨⟨rfl, .inl (hd 13 rfl)⟩, rfl⟩
                                      | 15, _, _ => exact .inr ⟨⟨rfl, .inl (hd 13 rfl)⟩, rfl⟩
                                      | 16, _, _ => exact .inl ⟨rfl, ⟨_, op_pickT rfl (hd 13 rfl) rfl, rfl⟩⟩
                                      | 17, _, _ => exact .inl ⟨rfl, op_mv rfl (hd 16 rfl)⟩
                                      | 18, _, _ => exact .inr ⟨⟨rfl, .inl (hd 17 rfl)⟩, rfl⟩
                                      | 19, _, _ => exact .inr ⟨⟨rfl, .inl (hd 17 rfl)⟩, rfl⟩
                                      | 20, _, _ => exact .inr ⟨⟨rfl, .inl (hd 17 rfl)⟩, rfl⟩
                                      | 21, _, _ => exact .inr ⟨⟨rfl, .inl (hd 17 rfl)⟩, rfl⟩
                                      | 22, _, _ => exact .inl ⟨rfl, ⟨_, op_pickT rfl (hd 17 rfl) rfl, rfl⟩⟩
                                      | qi + 23, h, _ => omega
                                    · intro vs X3 hb hv hal hne
                                      have HL0 := Hd.mk (HE.out.lt)
                                      have HBW := HB
                                      replace HB := Hd.mk (bel_then HB.out hb)
                                      replace HE : Hd (Env X3 [⟨w.heap.size, 24, [.int .i64 Wd, .int .i64 Ht, .slice (some ad) xs.length k]⟩, ⟨w.heap.size + 1, 95, [.int .i64 ((lin true T).a), .int .i64 ((lin true T).b), .int .i64 ((lin true T).c), .int .i64 ((lin true T).d)]⟩, ⟨w.heap.size + 1 + 1, 112, [.bool false, .bool false, .bool false]⟩, ⟨g23, 4, bools bs ++ rest23⟩, ⟨g7, 112, [.bool e, .bool false, .bool false]⟩, ⟨g10, 4, bools bm ++ restN⟩, ⟨g11, 4, bools bg ++ restN⟩]) := ⟨HE.out.to hb⟩
                                      have HLS := HL0
                                      have e112 : vs 112 = .bool true := hv 22 (by decide) rfl
                                      simp only [putAll, List.foldl_cons, List.foldl_nil, Act.put, List.setIfInBounds_toArray, List.set_cons_succ, List.set_cons_zero, List.drop_succ_cons, List.drop_zero, e112]
                                      generalize vs 90 = s90
                                      generalize vs 91 = s91
                                      generalize vs 92 = s92
                                      generalize vs 93 = s93
                                      generalize vs 94 = s94
                                      generalize vs 95 = s95
                                      generalize vs 96 = s96
                                      generalize vs 97 = s97
                                      generalize vs 98 = s98
                                      generalize vs 99 = s99
                                      generalize vs 100 = s100
                                      generalize vs 101 = s101
                                      generalize vs 102 = s102
                                      generalize vs 103 = s103
                                      generalize vs 104 = s104
                                      generalize vs 105 = s105
                                      generalize vs 106 = s106
                                      generalize vs 107 = s107
                                      generalize vs 108 = s108
                                      generalize vs 109 = s109
                                      generalize vs 110 = s110
                                      generalize vs 111 = s111
                                      clear hv hal hne hb HL0 HBW HLS e112
                                      go_upto_region 20 with fail
                                      refine wp_region_vd 2 [81, 82] [0, 1] [] 84 [.int .i64 0, .int .i64 0] [isV (.int .i64 b), isV (.int .i64 (b + 1))] (by rfl) alloc_Z ?_ ?_
                                      · intro qi qh qA aa wx hb hs hd
                                        match qi, qh, qA with
                                        | 0, _, _ => exact .inl ⟨rfl, op_mv rfl (hs 13 rfl)⟩
                                        | 1, _, _ => exact .inl ⟨rfl, ⟨_, op_add (by unfold Fit; omega) rfl (hd 0 rfl) rfl, rfl⟩⟩
                                        | qi + 2, h, _ => omega
                                      · intro vs X4 hb hv hal hne
                                        have HL0 := Hd.mk (HE.out.lt)
                                        have HBW := HB
                                        replace HB := Hd.mk (bel_then HB.out hb)
                                        replace HE : Hd (Env X4 [⟨w.heap.size, 24, [.int .i64 Wd, .int .i64 Ht, .slice (some ad) xs.length k]⟩, ⟨w.heap.size + 1, 95, [.int .i64 ((lin true T).a), .int .i64 ((lin true T).b), .int .i64 ((lin true T).c), .int .i64 ((lin true T).d)]⟩, ⟨w.heap.size + 1 + 1, 112, [.bool false, .bool false, .bool false]⟩, ⟨g23, 4, bools bs ++ rest23⟩, ⟨g7, 112, [.bool e, .bool false, .bool false]⟩, ⟨g10, 4, bools bm ++ restN⟩, ⟨g11, 4, bools bg ++ restN⟩]) := ⟨HE.out.to hb⟩
                                        have HLS := HL0
                                        have e82 : vs 82 = .int .i64 (b + 1) := hv 1 (by decide) rfl
                                        simp only [putAll, List.foldl_cons, List.foldl_nil, Act.put, List.setIfInBounds_toArray, List.set_cons_succ, List.set_cons_zero, List.drop_succ_cons, List.drop_zero, e82]
                                        generalize vs 81 = s81
                                        clear hv hal hne hb HL0 HBW HLS e82
                                        go_wp2_with fail
                                        go_roundw
                                        case rel => exact ⟨b + 1, _, _, by omega, rfl, ⟨HE.out, HB.out⟩, HMM.out.skip (fun hh => HSY.out hh.1), HGG.out.skip (fun hh => HSY.out hh.1)⟩
                                        case measure => simp [intOf]; omega
                            · skip
                              go_upto_region 19 with fail
                              refine wp_region_vd 4 [77, 78, 79, 80] [0, 1, 2, 3] [] 84 [.int .i64 0, .int .i64 0] [isV (.int .i64 b), isV (.int .i64 n), isV (.int .i64 (2 * n)), isV (.bool false)] (by rfl) alloc_Z ?_ ?_
                              · intro qi qh qA aa wx hb hs hd
                                match qi, qh, qA with
                                | 0, _, _ => exact .inl ⟨rfl, op_mv rfl (hs 13 rfl)⟩
                                | 1, _, _ => exact .inl ⟨rfl, op_mv rfl (hs 5 rfl)⟩
                                | 2, _, _ => exact .inl ⟨rfl, ⟨_, op_mul (by unfold Fit; omega) rfl rfl (hd 1 rfl), rfl⟩⟩
                                | 3, _, _ => exact .inl ⟨rfl, pure_b (bool_eq (decide_eq_false hy)) (⟨_, op_lssI rfl (hd 0 rfl) (hd 2 rfl), rfl⟩)⟩
                                | qi + 4, h, _ => omega
                              · intro vs X1 hb hv hal hne
                                have HL0 := Hd.mk (HE.out.lt)
                                have HBW := HB
                                replace HB := Hd.mk (bel_then HB.out hb)
                                replace HE : Hd (Env X1 [⟨w.heap.size, 24, [.int .i64 Wd, .int .i64 Ht, .slice (some ad) xs.length k]⟩, ⟨w.heap.size + 1, 95, [.int .i64 ((lin true T).a), .int .i64 ((lin true T).b), .int .i64 ((lin true T).c), .int .i64 ((lin true T).d)]⟩, ⟨w.heap.size + 1 + 1, 112, [.bool false, .bool false, .bool false]⟩, ⟨g23, 4, bools bs ++ rest23⟩, ⟨g7, 112, [.bool e, .bool false, .bool false]⟩, ⟨g10, 4, bools bm ++ restN⟩, ⟨g11, 4, bools bg ++ restN⟩]) := ⟨HE.out.to hb⟩
                                have HLS := HL0
                                have e80 : vs 80 = .bool false := hv 3 (by decide) rfl
                                simp only [putAll, List.foldl_cons, List.foldl_nil, Act.put, List.setIfInBounds_toArray, List.set_cons_succ, List.set_cons_zero, List.drop_succ_cons, List.drop_zero, e80]
                                generalize vs 77 = s77
                                generalize vs 78 = s78
                                generalize vs 79 = s79
                                clear hv hal hne hb HL0 HBW HLS e80
                                go_upto_region 17 with fail
                                refine wp_region_vd 2 [73, 74] [0, 1] [] 84 [.int .i64 0, .int .i64 0] [isV (.int .i64 a), isV (.int .i64 (a + 1))] (by rfl) alloc_Z ?_ ?_
                                · intro qi qh qA aa wx hb hs hd
                                  match qi, qh, qA with
                                  | 0, _, _ => exact .inl ⟨rfl, op_mv rfl (hs 12 rfl)⟩
                                  | 1, _, _ => exact .inl ⟨rfl, ⟨_, op_add (by unfold Fit; omega) rfl (hd 0 rfl) rfl, rfl⟩⟩
                                  | qi + 2, h, _ => omega
                                · intro vs X2 hb hv hal hne
                                  have HL0 := Hd.mk (HE.out.lt)
                                  have HBW := HB
                                  replace HB := Hd.mk (bel_then HB.out hb)
                                  replace HE : Hd (Env X2 [⟨w.heap.size, 24, [.int .i64 Wd, .int .i64 Ht, .slice (some ad) xs.length k]⟩, ⟨w.heap.size + 1, 95, [.int .i64 ((lin true T).a), .int .i64 ((lin true T).b), .int .i64 ((lin true T).c), .int .i64 ((lin true T).d)]⟩, ⟨w.heap.size + 1 + 1, 112, [.bool false, .bool false, .bool false]⟩, ⟨g23, 4, bools bs ++ rest23⟩, ⟨g7, 112, [.bool e, .bool false, .bool false]⟩, ⟨g10, 4, bools bm ++ restN⟩, ⟨g11, 4, bools bg ++ restN⟩]) := ⟨HE.out.to hb⟩
                                  have HLS := HL0
                                  have e74 : vs 74 = .int .i64 (a + 1) := hv 1 (by decide) rfl
                                  simp only [putAll, List.foldl_cons, List.foldl_nil, Act.put, List.setIfInBounds_toArray, List.set_cons_succ, List.set_cons_zero, List.drop_succ_cons, List.drop_zero, e74]
                                  generalize vs 73 = s73
                                  clear hv hal hne hb HL0 HBW HLS e74
                                  go_wp2_with fail
                                  go_roundw
                                  case rel => exact ⟨a + 1, _, _, by omega, rfl, ⟨HE.out, HB.out⟩, HMM.out.row (by omega), HGG.out.row (by omega)⟩
                                  case measure => simp [intOf]; omega
                    · have HMA : Hd (∀ i : Int, 0 ≤ i → i < 2 * n → (bm.getD i.toNat false = true ↔ MirR n (colF Wd Ht xs) T i)) := ⟨fun i h1 h2 => HMM.out.all (by omega) h1 h2⟩
                      have HGA : Hd (∀ i : Int, 0 ≤ i → i < 2 * n → (bg.getD i.toNat false = true ↔ GliR n (colF Wd Ht xs) T i)) := ⟨fun i h1 h2 => HGG.out.all (by omega) h1 h2⟩
                      have HBL := Hd.mk HMM.out.1
                      have HGL := Hd.mk HGG.out.1
                      clear HMM HGG
                      go_upto_region 16 with fail
                      refine wp_region_vd 4 [69, 70, 71, 72] [0, 1, 2, 3] [] 84 [.int .i64 0, .int .i64 0] [isV (.int .i64 a), isV (.int .i64 n), isV (.int .i64 (2 * n)), isV (.bool false)] (by rfl) alloc_Z ?_ ?_
                      · intro qi qh qA aa wx hb hs hd
                        match qi, qh, qA with
                        | 0, _, _ => exact .inl ⟨rfl, op_mv rfl (hs 12 rfl)⟩
                        | 1, _, _ => exact .inl ⟨rfl, op_mv rfl (hs 5 rfl)⟩
                        | 2, _, _ => exact .inl ⟨rfl, ⟨_, op_mul (by unfold Fit; omega) rfl rfl (hd 1 rfl), rfl⟩⟩
                        | 3, _, _ => exact .inl ⟨rfl, pure_b (bool_eq (decide_eq_false hx)) (⟨_, op_lssI rfl (hd 0 rfl) (hd 2 rfl), rfl⟩)⟩
                        | qi + 4, h, _ => omega
                      · intro vs X1 hb hv hal hne
                        have HL0 := Hd.mk (HE.out.lt)
                        have HBW := HB
                        replace HB := Hd.mk (bel_then HB.out hb)
                        replace HE : Hd (Env X1 [⟨w.heap.size, 24, [.int .i64 Wd, .int .i64 Ht, .slice (some ad) xs.length k]⟩, ⟨w.heap.size + 1, 95, [.int .i64 ((lin true T).a), .int .i64 ((lin true T).b), .int .i64 ((lin true T).c), .int .i64 ((lin true T).d)]⟩, ⟨w.heap.size + 1 + 1, 112, [.bool false, .bool false, .bool false]⟩, ⟨g23, 4, bools bs ++ rest23⟩, ⟨g7, 112, [.bool e, .bool false, .bool false]⟩, ⟨g10, 4, bools bm ++ restN⟩, ⟨g11, 4, bools bg ++ restN⟩]) := ⟨HE.out.to hb⟩
                        have HLS := HL0
                        have e72 : vs 72 = .bool false := hv 3 (by decide) rfl
                        simp only [putAll, List.foldl_cons, List.foldl_nil, Act.put, List.setIfInBounds_toArray, List.set_cons_succ, List.set_cons_zero, List.drop_succ_cons, List.drop_zero, e72]
                        generalize vs 69 = s69
                        generalize vs 70 = s70
                        generalize vs 71 = s71
                        clear hv hal hne hb HL0 HBW HLS e72
                        go_upto_region 26 with fail
                        refine wp_region_vd 3 [121, 122, 123] [0, 2] [] 84 [.int .i64 0, .int .i64 0] [isV (.slice (some ⟨g10, 0, none⟩) N1 N1), isV (.int .i64 (((N1 : Nat) : Int))), isV (.int .i64 0)] (by rfl) alloc_Z ?_ ?_
                        · intro qi qh qA aa wx hb hs hd
                          match qi, qh, qA with
                          | 0, _, _ => exact .inl ⟨rfl, op_mv rfl (hs 10 rfl)⟩
                          | 1, _, _ => exact .inl ⟨rfl, op_lenBl rfl rfl (hd 0 rfl)⟩
                          | 2, _, _ => exact .inl ⟨rfl, op_mv rfl rfl⟩
                          | qi + 3, h, _ => omega
                        · intro vs X2 hb hv hal hne
                          have HL0 := Hd.mk (HE.out.lt)
                          have HBW := HB
                          replace HB := Hd.mk (bel_then HB.out hb)
                          replace HE : Hd (Env X2 [⟨w.heap.size, 24, [.int .i64 Wd, .int .i64 Ht, .slice (some ad) xs.length k]⟩, ⟨w.heap.size + 1, 95, [.int .i64 ((lin true T).a), .int .i64 ((lin true T).b), .int .i64 ((lin true T).c), .int .i64 ((lin true T).d)]⟩, ⟨w.heap.size + 1 + 1, 112, [.bool false, .bool false, .bool false]⟩, ⟨g23, 4, bools bs ++ rest23⟩, ⟨g7, 112, [.bool e, .bool false, .bool false]⟩, ⟨g10, 4, bools bm ++ restN⟩, ⟨g11, 4, bools bg ++ restN⟩]) := ⟨HE.out.to hb⟩
                          have HLS := HL0
                          have e122 : vs 122 = .int .i64 (((N1 : Nat) : Int)) := hv 1 (by decide) rfl
                          have e123 : vs 123 = .int .i64 0 := hv 2 (by decide) rfl
                          simp only [putAll, List.foldl_cons, List.foldl_nil, Act.put, List.setIfInBounds_toArray, List.set_cons_succ, List.set_cons_zero, List.drop_succ_cons, List.drop_zero, e122, e123]
                          generalize vs 121 = s121
                          clear hv hal hne hb HL0 HBW HLS e122 e123
                          go_wp2_with fail
                          go_loopw [123] (fun sx wr => ∃ (i : Nat) (m : Bool), i ≤ N1 ∧ sx = .int .i64 (i : Int) ∧ (Env wr [⟨w.heap.size, 24, [.int .i64 Wd, .int .i64 Ht, .slice (some ad) xs.length k]⟩, ⟨w.heap.size + 1, 95, [.int .i64 ((lin true T).a), .int .i64 ((lin true T).b), .int .i64 ((lin true T).c), .int .i64 ((lin true T).d)]⟩, ⟨w.heap.size + 1 + 1, 112, [.bool false, .bool false, .bool false]⟩, ⟨g23, 4, bools bs ++ rest23⟩, ⟨g7, 112, [.bool e, .bool m, .bool false]⟩, ⟨g10, 4, bools bm ++ restN⟩, ⟨g11, 4, bools bg ++ restN⟩] ∧ Below w.heap.size w wr) ∧ Met (fun j => bm.getD j false = true) m i) (fun sx _ => N1 - (intOf sx).toNat)
                          case atStart => exact ⟨0, _, by omega, rfl, ⟨HE.out, HB.out⟩, Met.start⟩
                          case round =>
                            obtain ⟨i, m, hin, rfl, ⟨he, hb⟩, hmt⟩ := hrel
                            clear HB HE
                            have HB := Hd.mk hb
                            have HE : Hd (Env wr [⟨w.heap.size, 24, [.int .i64 Wd, .int .i64 Ht, .slice (some ad) xs.length k]⟩, ⟨w.heap.size + 1, 95, [.int .i64 ((lin true T).a), .int .i64 ((lin true T).b), .int .i64 ((lin true T).c), .int .i64 ((lin true T).d)]⟩, ⟨w.heap.size + 1 + 1, 112, [.bool false, .bool false, .bool false]⟩, ⟨g23, 4, bools bs ++ rest23⟩, ⟨g7, 112, [.bool e, .bool m, .bool false]⟩, ⟨g10, 4, bools bm ++ restN⟩, ⟨g11, 4, bools bg ++ restN⟩]) := ⟨he⟩
                            clear he hb
                            have HMT := Hd.mk hmt
                            clear hmt
                            by_cases hi : i < N1
                            · skip
                              go_upto_region 28 with fail
                              refine wp_region_vd 1 [125] [0] [] 84 [.int .i64 0, .int .i64 0] [isV (.int .i64 (((i : Nat) : Int)))] (by rfl) alloc_Z ?_ ?_
                              · intro qi qh qA aa wx hb hs hd
                                match qi, qh, qA with
                                | 0, _, _ => exact .inl ⟨rfl, op_mv rfl (hs 123 rfl)⟩
                                | qi + 1, h, _ => omega
                              · intro vs X1 hb hv hal hne
                                have HL0 := Hd.mk (HE.out.lt)
                                have HBW := HB
                                replace HB := Hd.mk (bel_then HB.out hb)
                                replace HE : Hd (Env X1 [⟨w.heap.size, 24, [.int .i64 Wd, .int .i64 Ht, .slice (some ad) xs.length k]⟩, ⟨w.heap.size + 1, 95, [.int .i64 ((lin true T).a), .int .i64 ((lin true T).b), .int .i64 ((lin true T).c), .int .i64 ((lin true T).d)]⟩, ⟨w.heap.size + 1 + 1, 112, [.bool false, .bool false, .bool false]⟩, ⟨g23, 4, bools bs ++ rest23⟩, ⟨g7, 112, [.bool e, .bool m, .bool false]⟩, ⟨g10, 4, bools bm ++ restN⟩, ⟨g11, 4, bools bg ++ restN⟩]) := ⟨HE.out.to hb⟩
                                have HLS := HL0
                                have e125 : vs 125 = .int .i64 (((i : Nat) : Int)) := hv 0 (by decide) rfl
                                simp only [putAll, List.foldl_cons, List.foldl_nil, Act.put, List.setIfInBounds_toArray, List.set_cons_succ, List.set_cons_zero, List.drop_succ_cons, List.drop_zero, e125]
                                clear hv hal hne hb HL0 HBW HLS e125
                                rcases (show m = true ∨ m = false by cases m <;> simp) with hm0 | hm0
                                · rw [hm0] at HMT
                                  have HM0 := Hd.mk hm0
                                  clear hm0
                                  go_upto_region 29 with fail
                                  refine wp_region_vd 9 [126, 127, 128, 129, 130, 131, 132, 133, 134] [0, 2, 7, 8] [] 84 [.int .i64 0, .int .i64 0] [isV (.pointer (some ⟨g7, 1, none⟩)), isV (.bool true), isV (.bool true), isV undef, isV undef, isV undef, isV undef, isV (.bool true), isV (.pointer (some ⟨g7, 1, none⟩))] (by rfl) alloc_Z ?_ ?_
                                  · intro qi qh qA aa wx hb hs hd
                                    match qi, qh, qA with
                                    | 0, _, _ => exact .inl ⟨rfl, ⟨_, op_faD1 rfl (hs 7 rfl), rfl⟩⟩
                                    | 1, _, _ => exact .inl ⟨rfl, wp_b (bool_eq HM0.out) (op_ldB rfl rfl (hd 0 rfl) ((HE.out.to hb).cell 4 1 rfl rfl))⟩
                                    | 2, _, _ => exact .inl ⟨rfl, op_mv rfl (hd 1 rfl)⟩
                                    | 3, _, _ => exact .inr ⟨⟨rfl, .inl (hd 2 rfl)⟩, rfl⟩
                                    | 4, _, _ => exact .inr ⟨⟨rfl, .inl (hd 2 rfl)⟩, rfl⟩
                                    | 5, _, _ => exact .inr ⟨⟨rfl, .inl (hd 2 rfl)⟩, rfl⟩
                                    | 6, _, _ => exact .inr ⟨⟨rfl, .inl (hd 2 rfl)⟩, rfl⟩
                                    | 7, _, _ => exact .inl ⟨rfl, ⟨_, op_pickT rfl (hd 2 rfl) rfl, rfl⟩⟩
                                    | 8, _, _ => exact .inl ⟨rfl, ⟨_, op_faD1 rfl (hs 7 rfl), rfl⟩⟩
                                    | qi + 9, h, _ => omega
                                  · intro vs X2 hb hv hal hne
                                    have HL0 := Hd.mk (HE.out.lt)
                                    have HBW := HB
                                    replace HB := Hd.mk (bel_then HB.out hb)
                                    replace HE : Hd (Env X2 [⟨w.heap.size, 24, [.int .i64 Wd, .int .i64 Ht, .slice (some ad) xs.length k]⟩, ⟨w.heap.size + 1, 95, [.int .i64 ((lin true T).a), .int .i64 ((lin true T).b), .int .i64 ((lin true T).c), .int .i64 ((lin true T).d)]⟩, ⟨w.heap.size + 1 + 1, 112, [.bool false, .bool false, .bool false]⟩, ⟨g23, 4, bools bs ++ rest23⟩, ⟨g7, 112, [.bool e, .bool m, .bool false]⟩, ⟨g10, 4, bools bm ++ restN⟩, ⟨g11, 4, bools bg ++ restN⟩]) := ⟨HE.out.to hb⟩
                                    have HLS := HL0
                                    have e134 : vs 134 = .pointer (some ⟨g7, 1, none⟩) := hv 8 (by decide) rfl
                                    have e133 : vs 133 = .bool true := hv 7 (by decide) rfl
                                    simp only [putAll, List.foldl_cons, List.foldl_nil, Act.put, List.setIfInBounds_toArray, List.set_cons_succ, List.set_cons_zero, List.drop_succ_cons, List.drop_zero, e134, e133]
                                    generalize vs 126 = s126
                                    generalize vs 127 = s127
                                    generalize vs 128 = s128
                                    generalize vs 129 = s129
                                    generalize vs 130 = s130
                                    generalize vs 131 = s131
                                    generalize vs 132 = s132
                                    clear hv hal hne hb HL0 HBW HLS e134 e133
                                    refine wpList_st rfl rfl rfl rfl rfl (sto_B (HE.out.get 4 rfl) rfl) ?_
                                    have HE' : Env (putL X2 g7 1 [.bool true]) [⟨w.heap.size, 24, [.int .i64 Wd, .int .i64 Ht, .slice (some ad) xs.length k]⟩, ⟨w.heap.size + 1, 95, [.int .i64 ((lin true T).a), .int .i64 ((lin true T).b), .int .i64 ((lin true T).c), .int .i64 ((lin true T).d)]⟩, ⟨w.heap.size + 1 + 1, 112, [.bool false, .bool false, .bool false]⟩, ⟨g23, 4, bools bs ++ rest23⟩, ⟨g7, 112, [.bool e, .bool true, .bool false]⟩, ⟨g10, 4, bools bm ++ restN⟩, ⟨g11, 4, bools bg ++ restN⟩] := HE.out.putO 4 rfl
                                    have HB' := putL_below (show w.heap.size ≤ g7 from G7.out) [.bool true] _ 1 HB.out
                                    generalize putL X2 g7 1 [.bool true] = X3 at *
                                    replace HE := Hd.mk HE'
                                    replace HB := Hd.mk HB'
                                    clear HE' HB'
                                    go_wp2_with fail
                                    go_roundw
                                    case rel => exact ⟨i + 1, _, by omega, by go_num, ⟨HE.out, HB.out⟩, HMT.out.keep⟩
                                    case measure => simp [intOf]; omega
                                · rw [hm0] at HMT
                                  have HM0 := Hd.mk hm0
                                  clear hm0
                                  go_upto_region 29 with fail
                                  refine wp_region_vd 9 [126, 127, 128, 129, 130, 131, 132, 133, 134] [0, 2, 3, 4, 7, 8] [] 84 [.int .i64 0, .int .i64 0] [isV (.pointer (some ⟨g7, 1, none⟩)), isV (.bool false), isV (.bool false), isV (.slice (some ⟨g10, 0, none⟩) N1 N1), isV (.int .i64 (((i : Nat) : Int))), isV (.pointer (some ⟨g10, (((i : Nat) : Int)).toNat, none⟩)), isV (.bool (bm.getD i false)), isV (.bool (bm.getD i false)), isV (.pointer (some ⟨g7, 1, none⟩))] (by rfl) alloc_Z ?_ ?_
                                  · intro qi qh qA aa wx hb hs hd
                                    match qi, qh, qA with
                                    | 0, _, _ => exact .inl ⟨rfl, ⟨_, op_faD1 rfl (hs 7 rfl), rfl⟩⟩
                                    | 1, _, _ => exact .inl ⟨rfl, wp_b (bool_eq HM0.out) (op_ldB rfl rfl (hd 0 rfl) ((HE.out.to hb).cell 4 1 rfl rfl))⟩
                                    | 2, _, _ => exact .inl ⟨rfl, op_mv rfl (hd 1 rfl)⟩
                                    | 3, _, _ => exact .inl ⟨⟨rfl, .inl (hd 2 rfl)⟩, op_mv rfl (hs 10 rfl)⟩
                                    | 4, _, _ => exact .inl ⟨⟨rfl, .inl (hd 2 rfl)⟩, op_mv rfl (hs 16 rfl)⟩
                                    | 5, _, _ => exact .inl ⟨⟨rfl, .inl (hd 2 rfl)⟩, op_run rfl (op_idxB (by omega) (by omega) rfl (hd 3 rfl) (hd 4 rfl) _) rfl⟩
                                    | 6, _, _ => exact .inl ⟨⟨rfl, .inl (hd 2 rfl)⟩, wp_b (bool_eq (by rw [Int.toNat_natCast])) (op_ldB rfl rfl (hd 5 rfl) (BB.cell ⟨_, (HE.out.to hb).get 5 rfl⟩ (by have h5 := HN1.out; have h6 := HBL.out; omega)))⟩
                                    | 7, _, _ => exact .inl ⟨rfl, ⟨_, op_pickF rfl (hd 2 rfl) (hd 6 rfl), rfl⟩⟩
                                    | 8, _, _ => exact .inl ⟨rfl, ⟨_, op_faD1 rfl (hs 7 rfl), rfl⟩⟩
                                    | qi + 9, h, _ => omega
                                  · intro vs X2 hb hv hal hne
                                    have HL0 := Hd.mk (HE.out.lt)
                                    have HBW := HB
                                    replace HB := Hd.mk (bel_then HB.out hb)
                                    replace HE : Hd (Env X2 [⟨w.heap.size, 24, [.int .i64 Wd, .int .i64 Ht, .slice (some ad) xs.length k]⟩, ⟨w.heap.size + 1, 95, [.int .i64 ((lin true T).a), .int .i64 ((lin true T).b), .int .i64 ((lin true T).c), .int .i64 ((lin true T).d)]⟩, ⟨w.heap.size + 1 + 1, 112, [.bool false, .bool false, .bool false]⟩, ⟨g23, 4, bools bs ++ rest23⟩, ⟨g7, 112, [.bool e, .bool m, .bool false]⟩, ⟨g10, 4, bools bm ++ restN⟩, ⟨g11, 4, bools bg ++ restN⟩]) := ⟨HE.out.to hb⟩
                                    have HLS := HL0
                                    have e134 : vs 134 = .pointer (some ⟨g7, 1, none⟩) := hv 8 (by decide) rfl
                                    have e133 : vs 133 = .bool (bm.getD i false) := hv 7 (by decide) rfl
                                    simp only [putAll, List.foldl_cons, List.foldl_nil, Act.put, List.setIfInBounds_toArray, List.set_cons_succ, List.set_cons_zero, List.drop_succ_cons, List.drop_zero, e134, e133]
                                    generalize vs 126 = s126
                                    generalize vs 127 = s127
                                    generalize vs 128 = s128
                                    generalize vs 129 = s129
                                    generalize vs 130 = s130
                                    generalize vs 131 = s131
                                    generalize vs 132 = s132
                                    clear hv hal hne hb HL0 HBW HLS e134 e133
                                    refine wpList_st rfl rfl rfl rfl rfl (sto_B (HE.out.get 4 rfl) rfl) ?_
                                    have HE' : Env (putL X2 g7 1 [.bool (bm.getD i false)]) [⟨w.heap.size, 24, [.int .i64 Wd, .int .i64 Ht, .slice (some ad) xs.length k]⟩, ⟨w.heap.size + 1, 95, [.int .i64 ((lin true T).a), .int .i64 ((lin true T).b), .int .i64 ((lin true T).c), .int .i64 ((lin true T).d)]⟩, ⟨w.heap.size + 1 + 1, 112, [.bool false, .bool false, .bool false]⟩, ⟨g23, 4, bools bs ++ rest23⟩, ⟨g7, 112, [.bool e, .bool (bm.getD i false), .bool false]⟩, ⟨g10, 4, bools bm ++ restN⟩, ⟨g11, 4, bools bg ++ restN⟩] := HE.out.putO 4 rfl
                                    have HB' := putL_below (show w.heap.size ≤ g7 from G7.out) [.bool (bm.getD i false)] _ 1 HB.out
                                    generalize putL X2 g7 1 [.bool (bm.getD i false)] = X3 at *
                                    replace HE := Hd.mk HE'
                                    replace HB := Hd.mk HB'
                                    clear HE' HB'
                                    go_wp2_with fail
                                    go_roundw
                                    case rel => exact ⟨i + 1, _, by omega, by go_num, ⟨HE.out, HB.out⟩, HMT.out.or_ Iff.rfl⟩
                                    case measure => simp [intOf]; omega
                            · have HMI : Hd (m = bP (Mir (colF Wd Ht xs) T)) := ⟨mir_of hn1.1 HPER.out HT4.out HN1.out HMA.out (by rw [← show i = N1 by omega]; exact HMT.out)⟩
                              clear HMT
                              go_upto_region 31 with fail
                              refine wp_region_vd 3 [136, 137, 138] [0, 2] [] 84 [.int .i64 0, .int .i64 0] [isV (.slice (some ⟨g11, 0, none⟩) N1 N1), isV (.int .i64 (((N1 : Nat) : Int))), isV (.int .i64 0)] (by rfl) alloc_Z ?_ ?_
                              · intro qi qh qA aa wx hb hs hd
                                match qi, qh, qA with
                                | 0, _, _ => exact .inl ⟨rfl, op_mv rfl (hs 11 rfl)⟩
                                | 1, _, _ => exact .inl ⟨rfl, op_lenBl rfl rfl (hd 0 rfl)⟩
                                | 2, _, _ => exact .inl ⟨rfl, op_mv rfl rfl⟩
                                | qi + 3, h, _ => omega
                              · intro vs X1 hb hv hal hne
                                have HL0 := Hd.mk (HE.out.lt)
                                have HBW := HB
                                replace HB := Hd.mk (bel_then HB.out hb)
                                replace HE : Hd (Env X1 [⟨w.heap.size, 24, [.int .i64 Wd, .int .i64 Ht, .slice (some ad) xs.length k]⟩, ⟨w.heap.size + 1, 95, [.int .i64 ((lin true T).a), .int .i64 ((lin true T).b), .int .i64 ((lin true T).c), .int .i64 ((lin true T).d)]⟩, ⟨w.heap.size + 1 + 1, 112, [.bool false, .bool false, .bool false]⟩, ⟨g23, 4, bools bs ++ rest23⟩, ⟨g7, 112, [.bool e, .bool m, .bool false]⟩, ⟨g10, 4, bools bm ++ restN⟩, ⟨g11, 4, bools bg ++ restN⟩]) := ⟨HE.out.to hb⟩
                                have HLS := HL0
                                have e137 : vs 137 = .int .i64 (((N1 : Nat) : Int)) := hv 1 (by decide) rfl
                                have e138 : vs 138 = .int .i64 0 := hv 2 (by decide) rfl
                                simp only [putAll, List.foldl_cons, List.foldl_nil, Act.put, List.setIfInBounds_toArray, List.set_cons_succ, List.set_cons_zero, List.drop_succ_cons, List.drop_zero, e137, e138]
                                generalize vs 136 = s136
                                clear hv hal hne hb HL0 HBW HLS e137 e138
                                go_wp2_with fail
                                go_loopw [138] (fun sx wr => ∃ (i : Nat) (c : Bool), i ≤ N1 ∧ sx = .int .i64 (i : Int) ∧ (Env wr [⟨w.heap.size, 24, [.int .i64 Wd, .int .i64 Ht, .slice (some ad) xs.length k]⟩, ⟨w.heap.size + 1, 95, [.int .i64 ((lin true T).a), .int .i64 ((lin true T).b), .int .i64 ((lin true T).c), .int .i64 ((lin true T).d)]⟩, ⟨w.heap.size + 1 + 1, 112, [.bool false, .bool false, .bool false]⟩, ⟨g23, 4, bools bs ++ rest23⟩, ⟨g7, 112, [.bool e, .bool m, .bool c]⟩, ⟨g10, 4, bools bm ++ restN⟩, ⟨g11, 4, bools bg ++ restN⟩] ∧ Below w.heap.size w wr) ∧ Met (fun j => m = true ∧ bg.getD j false = true ∧ bm.getD j false = false) c i) (fun sx _ => N1 - (intOf sx).toNat)
                                case atStart => exact ⟨0, _, by omega, rfl, ⟨HE.out, HB.out⟩, Met.start⟩
                                case round =>
                                  clear hi hin
                                  obtain ⟨i, c, hin, rfl, ⟨he, hb⟩, hmt⟩ := hrel
                                  clear HB HE
                                  have HB := Hd.mk hb
                                  have HE : Hd (Env wr [⟨w.heap.size, 24, [.int .i64 Wd, .int .i64 Ht, .slice (some ad) xs.length k]⟩, ⟨w.heap.size + 1, 95, [.int .i64 ((lin true T).a), .int .i64 ((lin true T).b), .int .i64 ((lin true T).c), .int .i64 ((lin true T).d)]⟩, ⟨w.heap.size + 1 + 1, 112, [.bool false, .bool false, .bool false]⟩, ⟨g23, 4, bools bs ++ rest23⟩, ⟨g7, 112, [.bool e, .bool m, .bool c]⟩, ⟨g10, 4, bools bm ++ restN⟩, ⟨g11, 4, bools bg ++ restN⟩]) := ⟨he⟩
                                  clear he hb
                                  have HMT := Hd.mk hmt
                                  clear hmt
                                  by_cases hi : i < N1
                                  · skip
                                    go_upto_region 33 with fail
                                    refine wp_region_vd 1 [140] [0] [] 84 [.int .i64 0, .int .i64 0] [isV (.int .i64 (((i : Nat) : Int)))] (by rfl) alloc_Z ?_ ?_
                                    · intro qi qh qA aa wx hb hs hd
                                      match qi, qh, qA with
                                      | 0, _, _ => exact .inl ⟨rfl, op_mv rfl (hs 138 rfl)⟩
                                      | qi + 1, h, _ => omega
                                    · intro vs X1 hb hv hal hne
                                      have HL0 := Hd.mk (HE.out.lt)
                                      have HBW := HB
                                      replace HB := Hd.mk (bel_then HB.out hb)
                                      replace HE : Hd (Env X1 [⟨w.heap.size, 24, [.int .i64 Wd, .int .i64 Ht, .slice (some ad) xs.length k]⟩, ⟨w.heap.size + 1, 95, [.int .i64 ((lin true T).a), .int .i64 ((lin true T).b), .int .i64 ((lin true T).c), .int .i64 ((lin true T).d)]⟩, ⟨w.heap.size + 1 + 1, 112, [.bool false, .bool false, .bool false]⟩, ⟨g23, 4, bools bs ++ rest23⟩, ⟨g7, 112, [.bool e, .bool m, .bool c]⟩, ⟨g10, 4, bools bm ++ restN⟩, ⟨g11, 4, bools bg ++ restN⟩]) := ⟨HE.out.to hb⟩
                                      have HLS := HL0
                                      have e140 : vs 140 = .int .i64 (((i : Nat) : Int)) := hv 0 (by decide) rfl
                                      simp only [putAll, List.foldl_cons, List.foldl_nil, Act.put, List.setIfInBounds_toArray, List.set_cons_succ, List.set_cons_zero, List.drop_succ_cons, List.drop_zero, e140]
                                      clear hv hal hne hb HL0 HBW HLS e140
                                      rcases (show c = true ∨ c = false by cases c <;> simp) with hc0 | hc0
                                      · rw [hc0] at HMT
                                        have HC0 := Hd.mk hc0
                                        clear hc0
                                        go_upto_region 34 with fail
                                        refine wp_region_vd 20 [141, 142, 143, 144, 145, 146, 147, 148, 149, 150, 151, 152, 153, 154, 155, 156, 157, 158, 159, 160] [0, 2, 18, 19] [] 84 [.int .i64 0, .int .i64 0] [isV (.pointer (some ⟨g7, 2, none⟩)), isV (.bool true), isV (.bool true), isV undef, isV undef, isV undef, isV undef, isV undef, isV undef, isV undef, isV undef, isV undef, isV undef, isV undef, isV undef, isV undef, isV undef, isV undef, isV (.bool true), isV (.pointer (some ⟨g7, 2, none⟩))] (by rfl) alloc_Z ?_ ?_
                                        · intro qi qh qA aa wx hb hs hd
                                          match qi, qh, qA with
                                          | 0, _, _ => exact .inl ⟨rfl, ⟨_, op_faD2 rfl (hs 7 rfl), rfl⟩⟩
                                          | 1, _, _ => exact .inl ⟨rfl, wp_b (bool_eq HC0.out) (op_ldB rfl rfl (hd 0 rfl) ((HE.out.to hb).cell 4 2 rfl rfl))⟩
                                          | 2, _, _ => exact .inl ⟨rfl, op_mv rfl (hd 1 rfl)⟩
                                          | 3, _, _ => exact .inr ⟨⟨rfl, .inl (hd 2 rfl)⟩, rfl⟩
                                          | 4, _, _ => exact .inr ⟨⟨rfl, .inl (hd 2 rfl)⟩, rfl⟩
                                          | 5, _, _ => exact .inr ⟨⟨rfl, .inl (hd 2 rfl)⟩, rfl⟩
                                          | 6, _, _ => exact .inr ⟨⟨rfl, .inr ⟨rfl, hd 5 rfl⟩⟩, rfl⟩
                                          | 7, _, _ => exact .inr ⟨⟨rfl, .inr ⟨rfl, hd 5 rfl⟩⟩, rfl⟩
                                          | 8, _, _ => exact .inr ⟨⟨rfl, .inr ⟨rfl, hd 5 rfl⟩⟩, rfl⟩
                                          | 9, _, _ => exact .inr ⟨⟨rfl, .inr ⟨rfl, hd 5 rfl⟩⟩, rfl⟩
                                          | 10, _, _ => exact .inr ⟨⟨rfl, .inl (hd 2 rfl)⟩, rfl⟩
                                          | 11, _, _ => exact .inr ⟨⟨rfl, .inl (hd 2 rfl)⟩, rfl⟩
                                          | 12, _, _ => exact .inr ⟨⟨rfl, .inr ⟨rfl, hd 11 rfl⟩⟩, rfl⟩
                                          | 13, _, _ => exact .inr ⟨⟨rfl, .inr ⟨rfl, hd 11 rfl⟩⟩, rfl⟩
                                          | 14, _, _ => exact .inr ⟨⟨rfl, .inr ⟨rfl, hd 11 rfl⟩⟩, rfl⟩
                                          | 15, _, _ => exact .inr ⟨⟨rfl, .inr ⟨rfl, hd 11 rfl⟩⟩, rfl⟩
                                          | 16, _, _ => exact .inr ⟨⟨rfl, .inr ⟨rfl, hd 11 rfl⟩⟩, rfl⟩
                                          | 17, _, _ => exact .inr ⟨⟨rfl, .inl (hd 2 rfl)⟩, rfl⟩
                                          | 18, _, _ => exact .inl ⟨rfl, ⟨_, op_pickT rfl (hd 2 rfl) rfl, rfl⟩⟩
                                          | 19, _, _ => exact .inl ⟨rfl, ⟨_, op_faD2 rfl (hs 7 rfl), rfl⟩⟩
                                          | qi + 20, h, _ => omega
                                        · intro vs X2 hb hv hal hne
                                          have HL0 := Hd.mk (HE.out.lt)
                                          have HBW := HB
                                          replace HB := Hd.mk (bel_then HB.out hb)
                                          replace HE : Hd (Env X2 [⟨w.heap.size, 24, [.int .i64 Wd, .int .i64 Ht, .slice (some ad) xs.length k]⟩, ⟨w.heap.size + 1, 95, [.int .i64 ((lin true T).a), .int .i64 ((lin true T).b), .int .i64 ((lin true T).c), .int .i64 ((lin true T).d)]⟩, ⟨w.heap.size + 1 + 1, 112, [.bool false, .bool false, .bool false]⟩, ⟨g23, 4, bools bs ++ rest23⟩, ⟨g7, 112, [.bool e, .bool m, .bool c]⟩, ⟨g10, 4, bools bm ++ restN⟩, ⟨g11, 4, bools bg ++ restN⟩]) := ⟨HE.out.to hb⟩
                                          have HLS := HL0
                                          have e160 : vs 160 = .pointer (some ⟨g7, 2, none⟩) := hv 19 (by decide) rfl
                                          have e159 : vs 159 = .bool true := hv 18 (by decide) rfl
                                          simp only [putAll, List.foldl_cons, List.foldl_nil, Act.put, List.setIfInBounds_toArray, List.set_cons_succ, List.set_cons_zero, List.drop_succ_cons, List.drop_zero, e160, e159]
                                          generalize vs 141 = s141
                                          generalize vs 142 = s142
                                          generalize vs 143 = s143
                                          generalize vs 144 = s144
                                          generalize vs 145 = s145
                                          generalize vs 146 = s146
                                          generalize vs 147 = s147
                                          generalize vs 148 = s148
                                          generalize vs 149 = s149
                                          generalize vs 150 = s150
                                          generalize vs 151 = s151
                                          generalize vs 152 = s152
                                          generalize vs 153 = s153
                                          generalize vs 154 = s154
                                          generalize vs 155 = s155
                                          generalize vs 156 = s156
                                          generalize vs 157 = s157
                                          generalize vs 158 = s158
                                          clear hv hal hne hb HL0 HBW HLS e160 e159
                                          refine wpList_st rfl rfl rfl rfl rfl (sto_B (HE.out.get 4 rfl) rfl) ?_
                                          have HE' : Env (putL X2 g7 2 [.bool true]) [⟨w.heap.size, 24, [.int .i64 Wd, .int .i64 Ht, .slice (some ad) xs.length k]⟩, ⟨w.heap.size + 1, 95, [.int .i64 ((lin true T).a), .int .i64 ((lin true T).b), .int .i64 ((lin true T).c), .int .i64 ((lin true T).d)]⟩, ⟨w.heap.size + 1 + 1, 112, [.bool false, .bool false, .bool false]⟩, ⟨g23, 4, bools bs ++ rest23⟩, ⟨g7, 112, [.bool e, .bool m, .bool true]⟩, ⟨g10, 4, bools bm ++ restN⟩, ⟨g11, 4, bools bg ++ restN⟩] := HE.out.putO 4 rfl
                                          have HB' := putL_below (show w.heap.size ≤ g7 from G7.out) [.bool true] _ 2 HB.out
                                          generalize putL X2 g7 2 [.bool true] = X3 at *
                                          replace HE := Hd.mk HE'
                                          replace HB := Hd.mk HB'
                                          clear HE' HB'
                                          go_wp2_with fail
                                          go_roundw
                                          case rel => exact ⟨i + 1, _, by omega, by go_num, ⟨HE.out, HB.out⟩, HMT.out.keep⟩
                                          case measure => simp [intOf]; omega
                                      · rw [hc0] at HMT
                                        have HC0 := Hd.mk hc0
                                        clear hc0
                                        rcases (show m = true ∨ m = false by cases m <;> simp) with hm0 | hm0
                                        · have HM0 := Hd.mk hm0
                                          clear hm0
                                          rcases (show bg.getD i false = true ∨ bg.getD i false = false by cases bg.getD i false <;> simp) with hg0 | hg0
                                          · have HG0 := Hd.mk hg0
                                            clear hg0
                                            go_upto_region 34 with fail
                                            refine wp_region_vd 20 [141, 142, 143, 144, 145, 146, 147, 148, 149, 150, 151, 152, 153, 154, 155, 156, 157, 158, 159, 160] [0, 2, 3, 5, 6, 7, 10, 11, 12, 13, 16, 17, 18, 19] [] 84 [.int .i64 0, .int .i64 0] [isV (.pointer (some ⟨g7, 2, none⟩)), isV (.bool false), isV (.bool false), isV (.pointer (some ⟨g7, 1, none⟩)), isV (.bool true), isV (.bool true), isV (.slice (some ⟨g11, 0, none⟩) N1 N1), isV (.int .i64 (((i : Nat) : Int))), isV (.pointer (some ⟨g11, (((i : Nat) : Int)).toNat, none⟩)), isV (.bool true), isV (.bool true), isV (.bool true), isV (.slice (some ⟨g10, 0, none⟩) N1 N1), isV (.int .i64 (((i : Nat) : Int))), isV (.pointer (some ⟨g10, (((i : Nat) : Int)).toNat, none⟩)), isV (.bool (bm.getD i false)), isV (.bool (!(bm.getD i false))), isV (.bool (!(bm.getD i false))), isV (.bool (!(bm.getD i false))), isV (.pointer (some ⟨g7, 2, none⟩))] (by rfl) alloc_Z ?_ ?_
                                            · intro qi qh qA aa wx hb hs hd
                                              match qi, qh, qA with
                                              | 0, _, _ => exact .inl ⟨rfl, ⟨_, op_faD2 rfl (hs 7 rfl), rfl⟩⟩
                                              | 1, _, _ => exact .inl ⟨rfl, wp_b (bool_eq HC0.out) (op_ldB rfl rfl (hd 0 rfl) ((HE.out.to hb).cell 4 2 rfl rfl))⟩
                                              | 2, _, _ => exact .inl ⟨rfl, op_mv rfl (hd 1 rfl)⟩
                                              | 3, _, _ => exact .inl ⟨⟨rfl, .inl (hd 2 rfl)⟩, ⟨_, op_faD1 rfl (hs 7 rfl), rfl⟩⟩
                                              | 4, _, _ => exact .inl ⟨⟨rfl, .inl (hd 2 rfl)⟩, wp_b (bool_eq HM0.out) (op_ldB rfl rfl (hd 3 rfl) ((HE.out.to hb).cell 4 1 rfl rfl))⟩
                                              | 5, _, _ => exact .inl ⟨⟨rfl, .inl (hd 2 rfl)⟩, op_mv rfl (hd 4 rfl)⟩
                                              | 6, _, _ => exact .inl ⟨⟨rfl, .inl (hd 5 rfl)⟩, op_mv rfl (hs 11 rfl)⟩
                                              | 7, _, _ => exact .inl ⟨⟨rfl, .inl (hd 5 rfl)⟩, op_mv rfl (hs 17 rfl)⟩
                                              | 8, _, _ => exact .inl ⟨⟨rfl, .inl (hd 5 rfl)⟩, op_run rfl (op_idxB (by omega) (by omega) rfl (hd 6 rfl) (hd 7 rfl) _) rfl⟩
                                              | 9, _, _ => exact .inl ⟨⟨rfl, .inl (hd 5 rfl)⟩, wp_b (bool_eq (by rw [Int.toNat_natCast]; exact HG0.out)) (op_ldB rfl rfl (hd 8 rfl) (BB.cell ⟨_, (HE.out.to hb).get 6 rfl⟩ (by have h5 := HN1.out; have h6 := HGL.out; omega)))⟩
                                              | 10, _, _ => exact .inl ⟨⟨rfl, .inl (hd 2 rfl)⟩, ⟨_, op_pickT rfl (hd 5 rfl) (hd 9 rfl), rfl⟩⟩
                                              | 11, _, _ => exact .inl ⟨⟨rfl, .inl (hd 2 rfl)⟩, op_mv rfl (hd 10 rfl)⟩
                                              | 12, _, _ => exact .inl ⟨⟨rfl, .inl (hd 11 rfl)⟩, op_mv rfl (hs 10 rfl)⟩
                                              | 13, _, _ => exact .inl ⟨⟨rfl, .inl (hd 11 rfl)⟩, op_mv rfl (hs 17 rfl)⟩
                                              | 14, _, _ => exact .inl ⟨⟨rfl, .inl (hd 11 rfl)⟩, op_run rfl (op_idxB (by omega) (by omega) rfl (hd 12 rfl) (hd 13 rfl) _) rfl⟩
                                              | 15, _, _ => exact .inl ⟨⟨rfl, .inl (hd 11 rfl)⟩, wp_b (bool_eq (by rw [Int.toNat_natCast])) (op_ldB rfl rfl (hd 14 rfl) (BB.cell ⟨_, (HE.out.to hb).get 5 rfl⟩ (by have h5 := HN1.out; have h6 := HBL.out; omega)))⟩
                                              | 16, _, _ => exact .inl ⟨⟨rfl, .inl (hd 11 rfl)⟩, ⟨_, op_not rfl (hd 15 rfl), rfl⟩⟩
                                              | 17, _, _ => exact .inl ⟨⟨rfl, .inl (hd 2 rfl)⟩, ⟨_, op_pickT rfl (hd 11 rfl) (hd 16 rfl), rfl⟩⟩
                                              | 18, _, _ => exact .inl ⟨rfl, ⟨_, op_pickF rfl (hd 2 rfl) (hd 17 rfl), rfl⟩⟩
                                              | 19, _, _ => exact .inl ⟨rfl, ⟨_, op_faD2 rfl (hs 7 rfl), rfl⟩⟩
                                              | qi + 20, h, _ => omega
                                            · intro vs X2 hb hv hal hne
                                              have HL0 := Hd.mk (HE.out.lt)
                                              have HBW := HB
                                              replace HB := Hd.mk (bel_then HB.out hb)
                                              replace HE : Hd (Env X2 [⟨w.heap.size, 24, [.int .i64 Wd, .int .i64 Ht, .slice (some ad) xs.length k]⟩, ⟨w.heap.size + 1, 95, [.int .i64 ((lin true T).a), .int .i64 ((lin true T).b), .int .i64 ((lin true T).c), .int .i64 ((lin true T).d)]⟩, ⟨w.heap.size + 1 + 1, 112, [.bool false, .bool false, .bool false]⟩, ⟨g23, 4, bools bs ++ rest23⟩, ⟨g7, 112, [.bool e, .bool m, .bool c]⟩, ⟨g10, 4, bools bm ++ restN⟩, ⟨g11, 4, bools bg ++ restN⟩]) := ⟨HE.out.to hb⟩
                                              have HLS := HL0
                                              have e160 : vs 160 = .pointer (some ⟨g7, 2, none⟩) := hv 19 (by decide) rfl
                                              have e159 : vs 159 = .bool (!(bm.getD i false)) := hv 18 (by decide) rfl
                                              simp only [putAll, List.foldl_cons, List.foldl_nil, Act.put, List.setIfInBounds_toArray, List.set_cons_succ, List.set_cons_zero, List.drop_succ_cons, List.drop_zero, e160, e159]
                                              generalize vs 141 = s141
                                              generalize vs 142 = s142
                                              generalize vs 143 = s143
                                              generalize vs 144 = s144
                                              generalize vs 145 = s145
                                              generalize vs 146 = s146
                                              generalize vs 147 = s147
                                              generalize vs 148 = s148
                                              generalize vs 149 = s149
                                              generalize vs 150 = s150
                                              generalize vs 151 = s151
                                              generalize vs 152 = s152
                                              generalize vs 153 = s153
                                              generalize vs 154 = s154
                                              generalize vs 155 = s155
                                              generalize vs 156 = s156
                                              generalize vs 157 = s157
                                              generalize vs 158 = s158
                                              clear hv hal hne hb HL0 HBW HLS e160 e159
                                              refine wpList_st rfl rfl rfl rfl rfl (sto_B (HE.out.get 4 rfl) rfl) ?_
                                              have HE' : Env (putL X2 g7 2 [.bool (!(bm.getD i false))]) [⟨w.heap.size, 24, [.int .i64 Wd, .int .i64 Ht, .slice (some ad) xs.length k]⟩, ⟨w.heap.size + 1, 95, [.int .i64 ((lin true T).a), .int .i64 ((lin true T).b), .int .i64 ((lin true T).c), .int .i64 ((lin true T).d)]⟩, ⟨w.heap.size + 1 + 1, 112, [.bool false, .bool false, .bool false]⟩, ⟨g23, 4, bools bs ++ rest23⟩, ⟨g7, 112, [.bool e, .bool m, .bool (!(bm.getD i false))]⟩, ⟨g10, 4, bools bm ++ restN⟩, ⟨g11, 4, bools bg ++ restN⟩] := HE.out.putO 4 rfl
                                              have HB' := putL_below (show w.heap.size ≤ g7 from G7.out) [.bool (!(bm.getD i false))] _ 2 HB.out
                                              generalize putL X2 g7 2 [.bool (!(bm.getD i false))] = X3 at *
                                              replace HE := Hd.mk HE'
                                              replace HB := Hd.mk HB'
                                              clear HE' HB'
                                              go_wp2_with fail
                                              go_roundw
                                              case rel => exact ⟨i + 1, _, by omega, by go_num, ⟨HE.out, HB.out⟩, HMT.out.or_ (by rw [Bool.not_eq_true']; exact ⟨fun h7 => ⟨HM0.out, HG0.out, h7⟩, fun h7 => h7.2.2⟩)⟩
                                              case measure => simp [intOf]; omega
                                          · have HG0 := Hd.mk hg0
                                            clear hg0
                                            go_upto_region 34 with fail
                                            refine wp_region_vd 20 [141, 142, 143, 144, 145, 146, 147, 148, 149, 150, 151, 152, 153, 154, 155, 156, 157, 158, 159, 160] [0, 2, 3, 5, 6, 7, 10, 11, 17, 18, 19] [] 84 [.int .i64 0, .int .i64 0] [isV (.pointer (some ⟨g7, 2, none⟩)), isV (.bool false), isV (.bool false), isV (.pointer (some ⟨g7, 1, none⟩)), isV (.bool true), isV (.bool true), isV (.slice (some ⟨g11, 0, none⟩) N1 N1), isV (.int .i64 (((i : Nat) : Int))), isV (.pointer (some ⟨g11, (((i : Nat) : Int)).toNat, none⟩)), isV (.bool false), isV (.bool false), isV (.bool false), isV undef, isV undef, isV undef, isV undef, isV undef, isV (.bool false), isV (.bool false), isV (.pointer (some ⟨g7, 2, none⟩))] (by rfl) alloc_Z ?_ ?_
                                            · intro qi qh qA aa wx hb hs hd
                                              match qi, qh, qA with
                                              | 0, _, _ => exact .inl ⟨rfl, ⟨_, op_faD2 rfl (hs 7 rfl), rfl⟩⟩
                                              | 1, _, _ => exact .inl ⟨rfl, wp_b (bool_eq HC0.out) (op_ldB rfl rfl (hd 0 rfl) ((HE.out.to hb).cell 4 2 rfl rfl))⟩
                                              | 2, _, _ => exact .inl ⟨rfl, op_mv rfl (hd 1 rfl)⟩
                                              | 3, _, _ => exact .inl ⟨⟨rfl, .inl (hd 2 rfl)⟩, ⟨_, op_faD1 rfl (hs 7 rfl), rfl⟩⟩
                                              | 4, _, _ => exact .inl ⟨⟨rfl, .inl (hd 2 rfl)⟩, wp_b (bool_eq HM0.out) (op_ldB rfl rfl (hd 3 rfl) ((HE.out.to hb).cell 4 1 rfl rfl))⟩
                                              | 5, _, _ => exact .inl ⟨⟨rfl, .inl (hd 2 rfl)⟩, op_mv rfl (hd 4 rfl)⟩
                                              | 6, _, _ => exact .inl ⟨⟨rfl, .inl (hd 5 rfl)⟩, op_mv rfl (hs 11 rfl)⟩
                                              | 7, _, _ => exact .inl ⟨⟨rfl, .inl (hd 5 rfl)⟩, op_mv rfl (hs 17 rfl)⟩
                                              | 8, _, _ => exact .inl ⟨⟨rfl, .inl (hd 5 rfl)⟩, op_run rfl (op_idxB (by omega) (by omega) rfl (hd 6 rfl) (hd 7 rfl) _) rfl⟩
                                              | 9, _, _ => exact .inl ⟨⟨rfl, .inl (hd 5 rfl)⟩, wp_b (bool_eq (by rw [Int.toNat_natCast]; exact HG0.out)) (op_ldB rfl rfl (hd 8 rfl) (BB.cell ⟨_, (HE.out.to hb).get 6 rfl⟩ (by have h5 := HN1.out; have h6 := HGL.out; omega)))⟩
                                              | 10, _, _ => exact .inl ⟨⟨rfl, .inl (hd 2 rfl)⟩, ⟨_, op_pickT rfl (hd 5 rfl) (hd 9 rfl), rfl⟩⟩
                                              | 11, _, _ => exact .inl ⟨⟨rfl, .inl (hd 2 rfl)⟩, op_mv rfl (hd 10 rfl)⟩
                                              | 12, _, _ => exact .inr ⟨⟨rfl, .inl (hd 11 rfl)⟩, rfl⟩
                                              | 13, _, _ => exact .inr ⟨⟨rfl, .inl (hd 11 rfl)⟩, rfl⟩
                                              | 14, _, _ => exact .inr ⟨⟨rfl, .inl (hd 11 rfl)⟩, rfl⟩
                                              | 15, _, _ => exact .inr ⟨⟨rfl, .inl (hd 11 rfl)⟩, rfl⟩
                                              | 16, _, _ => exact .inr ⟨⟨rfl, .inl (hd 11 rfl)⟩, rfl⟩
                                              | 17, _, _ => exact .inl ⟨⟨rfl, .inl (hd 2 rfl)⟩, ⟨_, op_pickF rfl (hd 11 rfl) rfl, rfl⟩⟩
                                              | 18, _, _ => exact .inl ⟨rfl, ⟨_, op_pickF rfl (hd 2 rfl) (hd 17 rfl), rfl⟩⟩
                                              | 19, _, _ => exact .inl ⟨rfl, ⟨_, op_faD2 rfl (hs 7 rfl), rfl⟩⟩
                                              | qi + 20, h, _ => omega
                                            · intro vs X2 hb hv hal hne
                                              have HL0 := Hd.mk (HE.out.lt)
                                              have HBW := HB
                                              replace HB := Hd.mk (bel_then HB.out hb)
                                              replace HE : Hd (Env X2 [⟨w.heap.size, 24, [.int .i64 Wd, .int .i64 Ht, .slice (some ad) xs.length k]⟩, ⟨w.heap.size + 1, 95, [.int .i64 ((lin true T).a), .int .i64 ((lin true T).b), .int .i64 ((lin true T).c), .int .i64 ((lin true T).d)]⟩, ⟨w.heap.size + 1 + 1, 112, [.bool false, .bool false, .bool false]⟩, ⟨g23, 4, bools bs ++ rest23⟩, ⟨g7, 112, [.bool e, .bool m, .bool c]⟩, ⟨g10, 4, bools bm ++ restN⟩, ⟨g11, 4, bools bg ++ restN⟩]) := ⟨HE.out.to hb⟩
                                              have HLS := HL0
                                              have e160 : vs 160 = .pointer (some ⟨g7, 2, none⟩) := hv 19 (by decide) rfl
                                              have e159 : vs 159 = .bool false := hv 18 (by decide) rfl
                                              simp only [putAll, List.foldl_cons, List.foldl_nil, Act.put, List.setIfInBounds_toArray, List.set_cons_succ, List.set_cons_zero, List.drop_succ_cons, List.drop_zero, e160, e159]
                                              generalize vs 141 = s141
                                              generalize vs 142 = s142
                                              generalize vs 143 = s143
                                              generalize vs 144 = s144
                                              generalize vs 145 = s145
                                              generalize vs 146 = s146
                                              generalize vs 147 = s147
                                              generalize vs 148 = s148
                                              generalize vs 149 = s149
                                              generalize vs 150 = s150
                                              generalize vs 151 = s151
                                              generalize vs 152 = s152
                                              generalize vs 153 = s153
                                              generalize vs 154 = s154
                                              generalize vs 155 = s155
                                              generalize vs 156 = s156
                                              generalize vs 157 = s157
                                              generalize vs 158 = s158
                                              clear hv hal hne hb HL0 HBW HLS e160 e159
                                              refine wpList_st rfl rfl rfl rfl rfl (sto_B (HE.out.get 4 rfl) rfl) ?_
                                              have HE' : Env (putL X2 g7 2 [.bool false]) [⟨w.heap.size, 24, [.int .i64 Wd, .int .i64 Ht, .slice (some ad) xs.length k]⟩, ⟨w.heap.size + 1, 95, [.int .i64 ((lin true T).a), .int .i64 ((lin true T).b), .int .i64 ((lin true T).c), .int .i64 ((lin true T).d)]⟩, ⟨w.heap.size + 1 + 1, 112, [.bool false, .bool false, .bool false]⟩, ⟨g23, 4, bools bs ++ rest23⟩, ⟨g7, 112, [.bool e, .bool m, .bool false]⟩, ⟨g10, 4, bools bm ++ restN⟩, ⟨g11, 4, bools bg ++ restN⟩] := HE.out.putO 4 rfl
                                              have HB' := putL_below (show w.heap.size ≤ g7 from G7.out) [.bool false] _ 2 HB.out
                                              generalize putL X2 g7 2 [.bool false] = X3 at *
                                              replace HE := Hd.mk HE'
                                              replace HB := Hd.mk HB'
                                              clear HE' HB'
                                              go_wp2_with fail
                                              go_roundw
                                              case rel => exact ⟨i + 1, _, by omega, by go_num, ⟨HE.out, HB.out⟩, HMT.out.no (fun h7 => by have h8 := h7.2.1; rw [HG0.out] at h8; cases h8)⟩
                                              case measure => simp [intOf]; omega
                                        · have HM0 := Hd.mk hm0
                                          clear hm0
                                          go_upto_region 34 with fail
                                          refine wp_region_vd 20 [141, 142, 143, 144, 145, 146, 147, 148, 149, 150, 151, 152, 153, 154, 155, 156, 157, 158, 159, 160] [0, 2, 3, 5, 10, 11, 17, 18, 19] [] 84 [.int .i64 0, .int .i64 0] [isV (.pointer (some ⟨g7, 2, none⟩)), isV (.bool false), isV (.bool false), isV (.pointer (some ⟨g7, 1, none⟩)), isV (.bool false), isV (.bool false), isV undef, isV undef, isV undef, isV undef, isV (.bool false), isV (.bool false), isV undef, isV undef, isV undef, isV undef, isV undef, isV (.bool false), isV (.bool false), isV (.pointer (some ⟨g7, 2, none⟩))] (by rfl) alloc_Z ?_ ?_
                                          · intro qi qh qA aa wx hb hs hd
                                            match qi, qh, qA with
                                            | 0, _, _ => exact .inl ⟨rfl, ⟨_, op_faD2 rfl (hs 7 rfl), rfl⟩⟩
                                            | 1, _, _ => exact .inl ⟨rfl, wp_b (bool_eq HC0.out) (op_ldB rfl rfl (hd 0 rfl) ((HE.out.to hb).cell 4 2 rfl rfl))⟩
                                            | 2, _, _ => exact .inl ⟨rfl, op_mv rfl (hd 1 rfl)⟩
                                            | 3, _, _ => exact .inl ⟨⟨rfl, .inl (hd 2 rfl)⟩, ⟨_, op_faD1 rfl (hs 7 rfl), rfl⟩⟩
                                            | 4, _, _ => exact .inl ⟨⟨rfl, .inl (hd 2 rfl)⟩, wp_b (bool_eq HM0.out) (op_ldB rfl rfl (hd 3 rfl) ((HE.out.to hb).cell 4 1 rfl rfl))⟩
                                            | 5, _, _ => exact .inl ⟨⟨rfl, .inl (hd 2 rfl)⟩, op_mv rfl (hd 4 rfl)⟩
                                            | 6, _, _ => exact .inr ⟨⟨rfl, .inl (hd 5 rfl)⟩, rfl⟩
                                            | 7, _, _ => exact .inr ⟨⟨rfl, .inl (hd 5 rfl)⟩, rfl⟩
                                            | 8, _, _ => exact .inr ⟨⟨rfl, .inl (hd 5 rfl)⟩, rfl⟩
                                            | 9, _, _ => exact .inr ⟨⟨rfl, .inl (hd 5 rfl)⟩, rfl⟩
                                            | 10, _, _ => exact .inl ⟨⟨rfl, .inl (hd 2 rfl)⟩, ⟨_, op_pickF rfl (hd 5 rfl) rfl, rfl⟩⟩
                                            | 11, _, _ => exact .inl ⟨⟨rfl, .inl (hd 2 rfl)⟩, op_mv rfl (hd 10 rfl)⟩
                                            | 12, _, _ => exact .inr ⟨⟨rfl, .inl (hd 11 rfl)⟩, rfl⟩
                                            | 13, _, _ => exact .inr ⟨⟨rfl, .inl (hd 11 rfl)⟩, rfl⟩
                                            | 14, _, _ => exact .inr ⟨⟨rfl, .inl (hd 11 rfl)⟩, rfl⟩
                                            | 15, _, _ => exact .inr ⟨⟨rfl, .inl (hd 11 rfl)⟩, rfl⟩
                                            | 16, _, _ => exact .inr ⟨⟨rfl, .inl (hd 11 rfl)⟩, rfl⟩
                                            | 17, _, _ => exact .inl ⟨⟨rfl, .inl (hd 2 rfl)⟩, ⟨_, op_pickF rfl (hd 11 rfl) rfl, rfl⟩⟩
                                            | 18, _, _ => exact .inl ⟨rfl, ⟨_, op_pickF rfl (hd 2 rfl) (hd 17 rfl), rfl⟩⟩
                                            | 19, _, _ => exact .inl ⟨rfl, ⟨_, op_faD2 rfl (hs 7 rfl), rfl⟩⟩
                                            | qi + 20, h, _ => omega
                                          · intro vs X2 hb hv hal hne
                                            have HL0 := Hd.mk (HE.out.lt)
                                            have HBW := HB
                                            replace HB := Hd.mk (bel_then HB.out hb)
                                            replace HE : Hd (Env X2 [⟨w.heap.size, 24, [.int .i64 Wd, .int .i64 Ht, .slice (some ad) xs.length k]⟩, ⟨w.heap.size + 1, 95, [.int .i64 ((lin true T).a), .int .i64 ((lin true T).b), .int .i64 ((lin true T).c), .int .i64 ((lin true T).d)]⟩, ⟨w.heap.size + 1 + 1, 112, [.bool false, .bool false, .bool false]⟩, ⟨g23, 4, bools bs ++ rest23⟩, ⟨g7, 112, [.bool e, .bool m, .bool c]⟩, ⟨g10, 4, bools bm ++ restN⟩, ⟨g11, 4, bools bg ++ restN⟩]) := ⟨HE.out.to hb⟩
                                            have HLS := HL0
                                            have e160 : vs 160 = .pointer (some ⟨g7, 2, none⟩) := hv 19 (by decide) rfl
                                            have e159 : vs 159 = .bool false := hv 18 (by decide) rfl
                                            simp only [putAll, List.foldl_cons, List.foldl_nil, Act.put, List.setIfInBounds_toArray, List.set_cons_succ, List.set_cons_zero, List.drop_succ_cons, List.drop_zero, e160, e159]
                                            generalize vs 141 = s141
                                            generalize vs 142 = s142
                                            generalize vs 143 = s143
                                            generalize vs 144 = s144
                                            generalize vs 145 = s145
                                            generalize vs 146 = s146
                                            generalize vs 147 = s147
                                            generalize vs 148 = s148
                                            generalize vs 149 = s149
                                            generalize vs 150 = s150
                                            generalize vs 151 = s151
                                            generalize vs 152 = s152
                                            generalize vs 153 = s153
                                            generalize vs 154 = s154
                                            generalize vs 155 = s155
                                            generalize vs 156 = s156
                                            generalize vs 157 = s157
                                            generalize vs 158 = s158
                                            clear hv hal hne hb HL0 HBW HLS e160 e159
                                            refine wpList_st rfl rfl rfl rfl rfl (sto_B (HE.out.get 4 rfl) rfl) ?_
                                            have HE' : Env (putL X2 g7 2 [.bool false]) [⟨w.heap.size, 24, [.int .i64 Wd, .int .i64 Ht, .slice (some ad) xs.length k]⟩, ⟨w.heap.size + 1, 95, [.int .i64 ((lin true T).a), .int .i64 ((lin true T).b), .int .i64 ((lin true T).c), .int .i64 ((lin true T).d)]⟩, ⟨w.heap.size + 1 + 1, 112, [.bool false, .bool false, .bool false]⟩, ⟨g23, 4, bools bs ++ rest23⟩, ⟨g7, 112, [.bool e, .bool m, .bool false]⟩, ⟨g10, 4, bools bm ++ restN⟩, ⟨g11, 4, bools bg ++ restN⟩] := HE.out.putO 4 rfl
                                            have HB' := putL_below (show w.heap.size ≤ g7 from G7.out) [.bool false] _ 2 HB.out
                                            generalize putL X2 g7 2 [.bool false] = X3 at *
                                            replace HE := Hd.mk HE'
                                            replace HB := Hd.mk HB'
                                            clear HE' HB'
                                            go_wp2_with fail
                                            go_roundw
                                            case rel => exact ⟨i + 1, _, by omega, by go_num, ⟨HE.out, HB.out⟩, HMT.out.no (fun h7 => by have h8 := h7.1; rw [HM0.out] at h8; cases h8)⟩
                                            case measure => simp [intOf]; omega
                                  · have HCE : Hd (c = bP (Mir (colF Wd Ht xs) T ∧ Cen (colF Wd Ht xs) T)) := ⟨cen_of hn1.1 HPER.out HT4.out HN1.out HMA.out HGA.out HMI.out (by rw [← show i = N1 by omega]; exact HMT.out)⟩
                                    clear HMT
                                    go_upto_region 36 with fail
                                    refine wp_region_vd 1 [162] [] [] 84 [.int .i64 0, .int .i64 0] [isV (.agg #[.bool e, .bool m, .bool c])] (by rfl) alloc_Z ?_ ?_
                                    · intro qi qh qA aa wx hb hs hd
                                      match qi, qh, qA with
                                      | 0, _, _ => exact .inl ⟨rfl, op_ldD rfl rfl (hs 7 rfl) ((HE.out.to hb).get 4 rfl)⟩
                                      | qi + 1, h, _ => omega
                                    · intro vs X1 hb hv hal hne
                                      have HL0 := Hd.mk (HE.out.lt)
                                      have HBW := HB
                                      replace HB := Hd.mk (bel_then HB.out hb)
                                      replace HE : Hd (Env X1 [⟨w.heap.size, 24, [.int .i64 Wd, .int .i64 Ht, .slice (some ad) xs.length k]⟩, ⟨w.heap.size + 1, 95, [.int .i64 ((lin true T).a), .int .i64 ((lin true T).b), .int .i64 ((lin true T).c), .int .i64 ((lin true T).d)]⟩, ⟨w.heap.size + 1 + 1, 112, [.bool false, .bool false, .bool false]⟩, ⟨g23, 4, bools bs ++ rest23⟩, ⟨g7, 112, [.bool e, .bool m, .bool c]⟩, ⟨g10, 4, bools bm ++ restN⟩, ⟨g11, 4, bools bg ++ restN⟩]) := ⟨HE.out.to hb⟩
                                      have HLS := HL0
                                      have e162 : vs 162 = .agg #[.bool e, .bool m, .bool c] := hv 0 (by decide) rfl
                                      simp only [putAll, List.foldl_cons, List.foldl_nil, Act.put, List.setIfInBounds_toArray, List.set_cons_succ, List.set_cons_zero, List.drop_succ_cons, List.drop_zero, e162]
                                      clear hv hal hne hb HL0 HBW HLS e162
                                      refine wpList_st rfl rfl rfl rfl rfl (sto_D (HE.out.get 2 rfl)) ?_
                                      have HE' : Env (putL X1 (w.heap.size + 1 + 1) 0 [.bool e, .bool m, .bool c]) [⟨w.heap.size, 24, [.int .i64 Wd, .int .i64 Ht, .slice (some ad) xs.length k]⟩, ⟨w.heap.size + 1, 95, [.int .i64 ((lin true T).a), .int .i64 ((lin true T).b), .int .i64 ((lin true T).c), .int .i64 ((lin true T).d)]⟩, ⟨w.heap.size + 1 + 1, 112, [.bool e, .bool m, .bool c]⟩, ⟨g23, 4, bools bs ++ rest23⟩, ⟨g7, 112, [.bool e, .bool m, .bool c]⟩, ⟨g10, 4, bools bm ++ restN⟩, ⟨g11, 4, bools bg ++ restN⟩] := HE.out.putF 2 rfl rfl
                                      have HB' := putL_below (show w.heap.size ≤ w.heap.size + 1 + 1 from by omega) [.bool e, .bool m, .bool c] _ 0 HB.out
                                      generalize putL X1 (w.heap.size + 1 + 1) 0 [.bool e, .bool m, .bool c] = X2 at *
                                      replace HE := Hd.mk HE'
                                      replace HB := Hd.mk HB'
                                      clear HE' HB'
                                      go_wp2_with fail
                                      have k0a := HE.out.cell 2 0 rfl rfl
                                      have k0b := HE.out.cell 2 1 rfl rfl
                                      have k0c := HE.out.cell 2 2 rfl rfl
                                      refine bodyPost_ret (v := .agg #[.bool e, .bool m, .bool c]) (by simp [results, Try.results69, go_sem, k0a, k0b, k0c]) rfl ?_
                                      exact ⟨_, rfl, HB.out, by show Value.agg #[.bool e, .bool m, .bool c] = _; rw [HEMP.out, HMI.out, HCE.out]⟩
end Go.Proofs.Ytddbmckbankmeaa
