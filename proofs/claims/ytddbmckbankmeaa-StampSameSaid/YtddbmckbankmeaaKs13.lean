/- Part 13 of the texts behind this claim. -/
import Derived.Test.YtddbmckbankmeaaKs12
set_option linter.unusedVariables false
set_option linter.unusedSimpArgs false
namespace Go.Proofs.Ytddbmckbankmeaa
open Go.RowKit Go.ChangeShapes Go.WideShapes Go.ChangeAt Go.WideMaps Go.Joins
open Go.Maps (Keyed)
def Pre (X Y E : Nat) (x y e : Int) : Prop := x < X ∨ (x = X ∧ (y < Y ∨ (y = Y ∧ e < E)))
def CovS (f : Int → Int → Int) (g : Bool) (k : Nat) (n : Int) (X Y E : Nat) (v u : Int × Int) : Prop := ∃ x y e, Win n x y e ∧ Pre X Y E x y e ∧ Sym f g k x y ∧ vP g n k (x + n * e) y = v ∧ uP g n k (x + n * e) y = u
structure Cov (f : Int → Int → Int) (g : Bool) (k : Nat) (n : Int) (al : List Ae) (X Y E : Nat) : Prop where
  hiff : ∀ v u, (∃ e ∈ al, e.v = v ∧ u ∈ e.us) ↔ CovS f g k n X Y E v u
  ne : ∀ e ∈ al, e.us ≠ []
  len : ∃ c : Nat, (c : Int) ≤ 60 * X + 2 * Y + E ∧ al.length ≤ c ∧ ∀ e ∈ al, e.us.length ≤ c
section
variable {f : Int → Int → Int} {g : Bool} {k : Nat} {n : Int} {X Y E X' Y' E' : Nat} {al : List Ae} {u v : Int × Int}
theorem covS_congr (h : ∀ x y e, Win n x y e → Sym f g k x y → (Pre X Y E x y e ↔ Pre X' Y' E' x y e)) : CovS f g k n X Y E v u ↔ CovS f g k n X' Y' E' v u := by
  constructor
  · rintro ⟨x, y, e, hw, hp, hs, h2⟩
    exact ⟨x, y, e, hw, (h x y e hw hs).1 hp, hs, h2⟩
  · rintro ⟨x, y, e, hw, hp, hs, h2⟩
    exact ⟨x, y, e, hw, (h x y e hw hs).2 hp, hs, h2⟩
theorem Cov.move (h : Cov f g k n al X Y E) (hc : ∀ x y e, Win n x y e → Sym f g k x y → (Pre X Y E x y e ↔ Pre X' Y' E' x y e)) (hl : (60 * X + 2 * Y + E : Int) ≤ 60 * X' + 2 * Y' + E') : Cov f g k n al X' Y' E' :=
  ⟨fun v u => (h.hiff v u).trans (covS_congr hc), h.ne, let ⟨c, h1, h2⟩ := h.len; ⟨c, Int.le_trans h1 hl, h2⟩⟩
theorem Cov.start : Cov f g k n [] 0 0 0 := ⟨fun v u => ⟨fun ⟨e, he, _⟩ => (by cases he), fun ⟨x, y, e, hw, hp, _⟩ => (by unfold Win at hw; unfold Pre at hp; omega)⟩, fun e he => (by cases he), 0, by omega, by simp, fun e he => (by cases he)⟩
theorem Cov.skip (h : Cov f g k n al X Y 0) (hs : ¬ Sym f g k X Y) : Cov f g k n al X (Y + 1) 0 := h.move (fun x y e hw h1 => by
  unfold Win at hw
  unfold Pre
  by_cases e2 : x = X ∧ y = Y
  · rw [e2.1, e2.2] at h1
    exact absurd h1 hs
  · constructor <;> intro h2 <;> omega) (by omega)
theorem Cov.next (h : Cov f g k n al X Y 2) : Cov f g k n al X (Y + 1) 0 := h.move (fun x y e hw h1 => by
  unfold Win at hw
  unfold Pre
  constructor <;> intro h2 <;> omega) (by omega)
theorem Cov.row (h : Cov f g k n al X Y 0) (hn : n ≤ 30) (hY : n ≤ Y) (hY2 : (Y : Int) ≤ n) : Cov f g k n al (X + 1) 0 0 := h.move (fun x y e hw h1 => by
  unfold Win at hw
  unfold Pre
  constructor <;> intro h2 <;> omega) (by omega)
theorem mem_upd {v' u' : Int × Int} : (∃ e ∈ upd al v u, e.v = v' ∧ u' ∈ e.us) ↔ (∃ e ∈ al, e.v = v' ∧ u' ∈ e.us) ∨ (v' = v ∧ u' = u ∧ ∃ e ∈ al, e.v = v) := by
  unfold upd
  constructor
  · rintro ⟨e, he, h1, h2⟩
    obtain ⟨y, hy, rfl⟩ := List.mem_map.1 he
    by_cases ey : y.v = v
    · rw [if_pos ey] at h1 h2
      rcases List.mem_append.1 h2 with h3 | h3
      · exact .inl ⟨y, hy, h1, h3⟩
      · exact .inr ⟨h1.symm.trans ey, List.mem_singleton.1 h3, y, hy, ey⟩
    · rw [if_neg ey] at h1 h2
      exact .inl ⟨y, hy, h1, h2⟩
  · rintro (⟨y, hy, h1, h2⟩ | ⟨rfl, rfl, y, hy, h1⟩)
    · refine ⟨_, List.mem_map.2 ⟨y, hy, rfl⟩, by rw [(upd_vb y).1]; exact h1, ?_⟩
      split
      · exact List.mem_append_left _ h2
      · exact h2
    · refine ⟨_, List.mem_map.2 ⟨y, hy, rfl⟩, by rw [(upd_vb y).1]; exact h1, ?_⟩
      rw [if_pos h1]
      exact List.mem_append_right _ (List.mem_singleton.2 rfl)
theorem covS_add (hs : Sym f g k X Y) (hw : Win n X Y E) (v u : Int × Int) : CovS f g k n X Y (E + 1) v u ↔ CovS f g k n X Y E v u ∨ (v = vP g n k (X + n * E) Y ∧ u = uP g n k (X + n * E) Y) := by
  constructor
  · rintro ⟨x, y, e, hw2, hp, hs2, h1, h2⟩
    by_cases e2 : x = X ∧ y = Y ∧ e = E
    · obtain ⟨rfl, rfl, rfl⟩ := e2
      exact .inr ⟨h1.symm, h2.symm⟩
    · exact .inl ⟨x, y, e, hw2, by unfold Pre at hp ⊢; omega, hs2, h1, h2⟩
  · rintro (⟨x, y, e, hw2, hp, hs2, h1, h2⟩ | ⟨rfl, rfl⟩)
    · exact ⟨x, y, e, hw2, by unfold Pre at hp ⊢; omega, hs2, h1, h2⟩
    · exact ⟨X, Y, E, hw, by unfold Pre; omega, hs, rfl, rfl⟩
theorem upd_ne (h : ∀ e ∈ al, e.v ≠ v → e.us ≠ []) : ∀ e ∈ upd al v u, e.us ≠ [] := fun e he => by
  unfold upd at he
  obtain ⟨y, hy, rfl⟩ := List.mem_map.1 he
  split
  · simp
  · next ey => exact h y hy ey
theorem upd_len {c : Nat} (h : ∀ e ∈ al, e.us.length ≤ c) : ∀ e ∈ upd al v u, e.us.length ≤ c + 1 := fun e he => by
  unfold upd at he
  obtain ⟨y, hy, rfl⟩ := List.mem_map.1 he
  have := h y hy
  split
  · rw [List.length_append]
    simp
    omega
  · omega
theorem Cov.add1 (h : Cov f g k n al X Y E) (hs : Sym f g k X Y) (hw : Win n X Y E) {e0 : Ae} (he : e0 ∈ al) (hv : e0.v = vP g n k (X + n * E) Y) : Cov f g k n (upd al (vP g n k (X + n * E) Y) (uP g n k (X + n * E) Y)) X Y (E + 1) := by
  obtain ⟨c, h1, h2, h3⟩ := h.len
  refine ⟨fun v u => ?_, upd_ne (fun e he _ => h.ne e he), c + 1, by omega, by unfold upd; rw [List.length_map]; omega, upd_len h3⟩
  rw [mem_upd, h.hiff, covS_add hs hw]
  exact ⟨fun h4 => h4.imp id (fun h5 => ⟨h5.1, h5.2.1⟩), fun h4 => h4.imp id (fun h5 => ⟨h5.1, h5.2, e0, he, hv⟩)⟩
theorem Cov.add2 (h : Cov f g k n al X Y E) (hs : Sym f g k X Y) (hw : Win n X Y E) (b : Nat) (hf : fnd al (vP g n k (X + n * E) Y) = none) : Cov f g k n (upd (al ++ [⟨vP g n k (X + n * E) Y, b, []⟩]) (vP g n k (X + n * E) Y) (uP g n k (X + n * E) Y)) X Y (E + 1) := by
  obtain ⟨c, h1, h2, h3⟩ := h.len
  refine ⟨fun v u => ?_, upd_ne (fun e he hne => ?_), c + 1, by omega, by unfold upd; rw [List.length_map, List.length_append]; simp; omega, upd_len (fun e he => ?_)⟩
  · rw [mem_upd, covS_add hs hw, ← h.hiff]
    constructor
    · rintro (⟨e, he, h4, h5⟩ | ⟨h4, h5, _⟩)
      · rcases List.mem_append.1 he with he | he
        · exact .inl ⟨e, he, h4, h5⟩
        · rw [List.mem_singleton.1 he] at h5
          cases h5
      · exact .inr ⟨h4, h5⟩
    · rintro (⟨e, he, h4, h5⟩ | ⟨h4, h5⟩)
      · exact .inl ⟨e, List.mem_append_left _ he, h4, h5⟩
      · exact .inr ⟨h4, h5, _, List.mem_append_right _ (List.mem_singleton.2 rfl), rfl⟩
  · rcases List.mem_append.1 he with he | he
    · exact h.ne e he
    · rw [List.mem_singleton.1 he] at hne
      exact absurd rfl hne
  · rcases List.mem_append.1 he with he | he
    · exact h3 e he
    · rw [List.mem_singleton.1 he]
      exact Nat.zero_le _
theorem Cov.all (h : Cov f g k n al X 0 0) (hX : n ≤ X) (v u : Int × Int) : (∃ e ∈ al, e.v = v ∧ u ∈ e.us) ↔ ∃ x y e, Win n x y e ∧ Sym f g k x y ∧ vP g n k (x + n * e) y = v ∧ uP g n k (x + n * e) y = u := by
  rw [h.hiff]
  constructor
  · rintro ⟨x, y, e, hw, hp, h2⟩
    exact ⟨x, y, e, hw, h2⟩
  · rintro ⟨x, y, e, hw, h2⟩
    exact ⟨x, y, e, hw, by unfold Win at hw; unfold Pre; omega, h2⟩
theorem Cov.mir (h : Cov f g k n al X 0 0) (hX : n ≤ X) : (∃ e ∈ al, (0, 0) ∈ e.us) ↔ MirP n f g k := by
  constructor
  · rintro ⟨e, he, h0⟩
    obtain ⟨x, y, e', hw, hs, _, hu⟩ := (h.all hX e.v (0, 0)).1 ⟨e, he, rfl, h0⟩
    exact ⟨x, y, e', hw, hs, hu⟩
  · rintro ⟨x, y, e', hw, hs, hu⟩
    obtain ⟨e, he, _, h0⟩ := (h.all hX (vP g n k (x + n * e') y) (0, 0)).2 ⟨x, y, e', hw, hs, rfl, hu⟩
    exact ⟨e, he, h0⟩
theorem Cov.cen (h : Cov f g k n al X 0 0) (hX : n ≤ X) (ha : al.Pairwise (fun e e' => e.v ≠ e'.v ∧ e.b ≠ e'.b)) : (∃ e ∈ al, ¬ (0, 0) ∈ e.us) ↔ CenP n f g k := by
  constructor
  · rintro ⟨e, he, h0⟩
    obtain ⟨u, hu⟩ : ∃ u, u ∈ e.us := by
      cases hus : e.us with
      | nil => exact absurd hus (h.ne e he)
      | cons a l => exact ⟨a, List.mem_cons_self ..⟩
    obtain ⟨x, y, e', hw, hs, hv, _⟩ := (h.all hX e.v u).1 ⟨e, he, rfl, hu⟩
    refine ⟨x, y, e', hw, hs, fun x2 y2 e2 hw2 hs2 hv2 hu2 => h0 ?_⟩
    obtain ⟨e3, he3, hv3, h3⟩ := (h.all hX e.v (0, 0)).2 ⟨x2, y2, e2, hw2, hs2, hv2.trans hv, hu2⟩
    rw [← (ap_eq ha he3 he).1 hv3]
    exact h3
  · rintro ⟨x, y, e', hw, hs, hno⟩
    obtain ⟨e, he, hv, _⟩ := (h.all hX _ _).2 ⟨x, y, e', hw, hs, rfl, rfl⟩
    refine ⟨e, he, fun h0 => ?_⟩
    obtain ⟨x2, y2, e2, hw2, hs2, hv2, hu2⟩ := (h.all hX e.v (0, 0)).1 ⟨e, he, rfl, h0⟩
    exact hno x2 y2 e2 hw2 hs2 (hv2.trans hv) hu2
theorem Cov.small (h : Cov f g k n al X Y E) (hX : (X : Int) ≤ 30) (hY : (Y : Int) ≤ 30) (hE : E ≤ 2) : al.length < maxLen ∧ ∀ e ∈ al, e.us.length < maxLen := by
  obtain ⟨c, h1, h2, h3⟩ := h.len
  unfold maxLen
  exact ⟨by omega, fun e he => by have := h3 e he; omega⟩
end
theorem wfV_small {v : Int × Int} (h1 : -1000 ≤ v.1 ∧ v.1 ≤ 1000) (h2 : -1000 ≤ v.2 ∧ v.2 ≤ 1000) : WfV v := ⟨wf_small h1, wf_small h2⟩
theorem uv_small {g : Bool} {n : Int} {k : Nat} {x y : Int} (hn : 1 ≤ n ∧ n ≤ 30) : WfV (uP g n k x y) ∧ WfV (vP g n k x y) := by
  have a1 := Int.emod_nonneg (x + (trn g x y k).1) (show 2 * n ≠ 0 by omega)
  have a2 := Int.emod_lt_of_pos (x + (trn g x y k).1) (show 0 < 2 * n by omega)
  have a3 := Int.emod_nonneg (y + (trn g x y k).2) (show 2 * n ≠ 0 by omega)
  have a4 := Int.emod_lt_of_pos (y + (trn g x y k).2) (show 0 < 2 * n by omega)
  have b1 := Int.emod_nonneg (x - (trn g x y k).1) (show 2 * n ≠ 0 by omega)
  have b2 := Int.emod_lt_of_pos (x - (trn g x y k).1) (show 0 < 2 * n by omega)
  have b3 := Int.emod_nonneg (y - (trn g x y k).2) (show 2 * n ≠ 0 by omega)
  have b4 := Int.emod_lt_of_pos (y - (trn g x y k).2) (show 0 < 2 * n by omega)
  refine ⟨wfV_small ?_ ?_, wfV_small ?_ ?_⟩
  · show -1000 ≤ (_ : Int) % _ ∧ (_ : Int) % _ ≤ 1000
    omega
  · show -1000 ≤ (_ : Int) % _ ∧ (_ : Int) % _ ≤ 1000
    omega
  · show -1000 ≤ (_ : Int) % _ ∧ (_ : Int) % _ ≤ 1000
    omega
  · show -1000 ≤ (_ : Int) % _ ∧ (_ : Int) % _ ≤ 1000
    omega
def isMM (lo : Nat) : SP := ⟨fun v w => ∃ b, v = .map (some b) ∧ MM w lo b [], fun v w w' ⟨b, h1, h2⟩ hb => ⟨b, h1, h2.to hb⟩⟩
def isMV (lo : Nat) : SP := ⟨fun v w => ∃ b, v = .map (some b) ∧ lo ≤ b ∧ MapV w b [], fun v w w' ⟨b, h1, h2, h3⟩ hb => ⟨b, h1, h2, h3.to hb⟩⟩
def isVS (lo : Nat) (a b c d : Int) : SP := ⟨fun v w => ∃ g, v = .slice (some ⟨g, 0, none⟩) 2 2 ∧ lo ≤ g ∧ Blk w g 130 [.int .i64 a, .int .i64 b, .int .i64 c, .int .i64 d], fun v w w' ⟨g, h1, h2, h3⟩ hb => ⟨g, h1, h2, h3.to hb⟩⟩
section
variable {Q : Exit → Act → World → Prop} {ops : Array Oper} {rest : List Oper} {o : Oper} {a : Act} {w : World} {d lo bm b : Nat} {x y z : Operand} {al : List Ae} {u v : Int × Int} {us : List (Int × Int)} {kl : Lit}
theorem op_mkMM (ho : o.op = .makeMap 127 none) (hd : o.dst = some d) (lo : Nat) (hl : lo ≤ w.heap.size) : o.wp Try.prog a w (Post a w d (isMM lo).p) Q := by
  have key : (execOp a.eval o).run Try.prog w = .ok (.value (.map (some w.heap.size))) (w.alloc (.map #[] 0)) := by
    unfold execOp
    simp only [ho]
    simp [run_makeMap, Result.andThen]
  unfold Oper.wp
  rw [key]
  show Post a w d _ (a.put o.dst _) _
  rw [hd]
  exact ⟨_, rfl, below_alloc (Below.refl _ _) _, w.heap.size, rfl, mm_made w hl⟩
theorem op_mkMV (ho : o.op = .makeMap 133 none) (hd : o.dst = some d) (lo : Nat) (hl : lo ≤ w.heap.size) : o.wp Try.prog a w (Post a w d (isMV lo).p) Q := by
  have key : (execOp a.eval o).run Try.prog w = .ok (.value (.map (some w.heap.size))) (w.alloc (.map #[] 0)) := by
    unfold execOp
    simp only [ho]
    simp [run_makeMap, Result.andThen]
  unfold Oper.wp
  rw [key]
  show Post a w d _ (a.put o.dst _) _
  rw [hd]
  exact ⟨_, rfl, below_alloc (Below.refl _ _) _, w.heap.size, rfl, hl, mapV_made w⟩
theorem op_lookMM (ho : o.op = .lookup 127 x y false) (hd : o.dst = some d) (hx : a.eval x = .map (some bm)) (hy : a.eval y = .agg #[.int .i64 v.1, .int .i64 v.2]) (h : MM w lo bm al) (hk : keyV v = some kl) : o.wp Try.prog a w (Post a w d (isV (.map ((fnd al v).map Ae.b))).p) Q := by
  refine op_run (v := .map ((fnd al v).map Ae.b)) hd ?_ rfl
  have hl := h.look hk
  unfold vvv at hl
  generalize a.eval = ev at hx hy ⊢
  unfold execOp
  simp only [ho, hx, hy]
  simp [go_sem, hl]
theorem op_lookV (ho : o.op = .lookup 133 x y false) (hd : o.dst = some d) (hx : a.eval x = .map (some b)) (hy : a.eval y = .agg #[.int .i64 u.1, .int .i64 u.2]) (h : MapV w b us) (hk : keyV u = some kl) : o.wp Try.prog a w (Post a w d (isV (.bool (memV u us))).p) Q := by
  refine op_run (v := .bool (memV u us)) hd ?_ rfl
  have hl := h.look hk
  unfold vvv at hl
  generalize a.eval = ev at hx hy ⊢
  unfold execOp
  simp only [ho, hx, hy]
  simp [go_sem, hl]
theorem eql_some (q : Nat) (w : World) : (binOp .eql 133 (.map (some q)) (.map none)).run Try.prog w = .ok (.bool false) w := by kernel_rfl
theorem eql_none (w : World) : (binOp .eql 133 (.map none) (.map none)).run Try.prog w = .ok (.bool true) w := by kernel_rfl
theorem op_eqlNil {ty : TypeId} {c : Option Nat} (ho : o.op = .binOp .eql 133 x (.const (.map none)) ty) (hx : a.eval x = .map c) (w : World) : (execOp a.eval o).run Try.prog w = .ok (.value (.bool c.isNone)) w := by
  have h1 : a.eval (.const (.map none)) = .map none := rfl
  generalize a.eval = ev at hx h1 ⊢
  unfold execOp
  simp only [ho, hx, h1]
  cases c
  · simp [go_sem, eql_none]
  · simp [go_sem, eql_some]
theorem wpList_stMM (hg : o.guard = none) (ho : o.op = .mapUpdate 127 x y z) (hd : o.dst = none) (hx : a.eval x = .map (some bm)) (hy : a.eval y = .agg #[.int .i64 v.1, .int .i64 v.2]) (hz : a.eval z = .map (some b))
    (h : MM w lo bm al) (hk : keyV v = some kl) (hf : fnd al v = none) (hm : MapV w b []) (hlo : lo ≤ b) (hb : b ≠ bm) (hbe : ∀ e ∈ al, e.b ≠ b) (hn : al.length < maxLen)
    (hK : ∀ w', MM w' lo bm (al ++ [⟨v, b, []⟩]) → w.grownBy w' (some bm) → wpList Try.prog ops Q rest a w') : wpList Try.prog ops Q (o :: rest) a w := by
  refine wpList_plain hg fun K' hK' => ?_
  obtain ⟨w', r1, r2, r3⟩ := h.store hk hf hm hlo hb hbe hn
  unfold vvv at r1
  unfold Oper.wp
  simp [execOp, ho, hx, hy, hz, r1, Result.andThen]
  show K' (a.put o.dst undef) w'
  rw [hd]
  exact hK' _ _ (hK w' r2 r3)
theorem wpList_stV {e : Ae} (hg : o.guard = none) (ho : o.op = .mapUpdate 133 x y (.const (.bool true))) (hd : o.dst = none) (hx : a.eval x = .map (some e.b)) (hy : a.eval y = .agg #[.int .i64 u.1, .int .i64 u.2])
    (h : MM w lo bm al) (he : e ∈ al) (hk : keyV u = some kl) (hn : e.us.length < maxLen)
    (hK : ∀ w', MM w' lo bm (upd al e.v u) → w.grownBy w' (some e.b) → wpList Try.prog ops Q rest a w') : wpList Try.prog ops Q (o :: rest) a w := by
  refine wpList_plain hg fun K' hK' => ?_
  obtain ⟨w', r1, r2, r3⟩ := (h.inn e he).2.1.store hk hn
  have hz : a.eval (.const (.bool true)) = .bool true := rfl
  unfold vvv at r1
  unfold Oper.wp
  simp [execOp, ho, hx, hy, hz, r1, Result.andThen]
  show K' (a.put o.dst undef) w'
  rw [hd]
  exact hK' _ _ (hK w' (h.one he r2 r3) r3)
end
theorem Env.grownM {w w' : World} {b : Nat} {L : List Ent} (k : Env w L) (hg : w.grownBy w' (some b)) (hm : IsM w b) : Env w' L := Env.grown k hg (fun e he => isM_ne hm (k.mem he))
theorem Env.grownR {w w' : World} {b r n : Nat} {D : DataW Unit} {left : Lit → Bool} {cnt : Nat} {L : List Ent} (k : Env w L) (hg : w.grownBy w' (some r)) (h : w.ranges Try.prog 130 RB b r n D left cnt) : Env w' L := Env.grown k hg (fun e he => ranges_cell h (k.mem he))
theorem vec_add (g h : Nat) : (⟨g, 0, none⟩ : Addr).add h = ⟨g, h, none⟩ := by
  unfold Addr.add
  split <;> simp_all
section
variable {Q : Exit → Act → World → Prop} {o : Oper} {a : Act} {w : World} {d g k n j : Nat} {x y z : Operand} {a0 b0 c0 d0 : Int} {A : Option Addr}
theorem op_litV (ho : o.op = .buildSlice 131 2 #[(0, x), (1, y)]) (hd : o.dst = some d) (hx : a.eval x = .agg #[.int .i64 a0, .int .i64 b0]) (hy : a.eval y = .agg #[.int .i64 c0, .int .i64 d0]) (lo : Nat) (hl : lo ≤ w.heap.size) : o.wp Try.prog a w (Post a w d (isVS lo a0 b0 c0 d0).p) Q := by
  have hr : (execOp a.eval o).run Try.prog w = .ok (.value (.slice (some ⟨w.heap.size, 0, none⟩) 2 2)) (w.alloc (.cells #[.int .i64 a0, .int .i64 b0, .int .i64 c0, .int .i64 d0] 130)) := by
    generalize a.eval = ev at hx hy ⊢
    unfold execOp
    simp only [ho]
    simp [go_sem, hx, hy]
  unfold Oper.wp
  rw [hr]
  show Post a w d _ (a.put o.dst _) _
  rw [hd]
  exact ⟨_, rfl, below_alloc (Below.refl _ _) _, w.heap.size, rfl, hl, heap_alloc_new _ _⟩
theorem op_lenVS (ho : o.op = .call { callee := .builtin .len, args := #[x], argTypes := #[131] }) (hd : o.dst = some d) (hx : a.eval x = .slice A n k) : o.wp Try.prog a w (Post a w d (isV (.int .i64 (n : Int))).p) Q := by
  refine op_run (v := .int .i64 (n : Int)) hd ?_ rfl
  generalize a.eval = ev at hx ⊢
  unfold execOp
  simp only [ho]
  simp [go_sem, hx]
theorem op_idxVS (hj : j < 2) (ho : o.op = .indexAddr 131 x y) (hx : a.eval x = .slice (some ⟨g, 0, none⟩) 2 2) (hy : a.eval y = .int .i64 (j : Int)) (w : World) : (execOp a.eval o).run Try.prog w = .ok (.value (.pointer (some ⟨g, 2 * j, none⟩))) w := by
  have h1 : j = 0 ∨ j = 1 := by omega
  generalize a.eval = ev at hx hy ⊢
  unfold execOp
  simp only [ho, hx, hy]
  rcases h1 with rfl | rfl
  · simp [go_sem, vec_add]
  · simp [go_sem, vec_add]
def vsx (j : Nat) (a c : Int) : Int := if j = 0 then a else c
theorem op_ldVS (hj : j < 2) (ho : o.op = .load 130 x) (hd : o.dst = some d) (hx : a.eval x = .pointer (some ⟨g, 2 * j, none⟩)) (h : Blk w g 130 [.int .i64 a0, .int .i64 b0, .int .i64 c0, .int .i64 d0]) : o.wp Try.prog a w (Post a w d (isV (.agg #[.int .i64 (vsx j a0 c0), .int .i64 (vsx j b0 d0)])).p) Q := by
  have h0 := h.cell 0
  have h1 := h.cell 1
  have h2 := h.cell 2
  have h3 := h.cell 3
  simp at h0 h1 h2 h3
  have hj2 : j = 0 ∨ j = 1 := by omega
  rcases hj2 with rfl | rfl
  · exact op_load ho hd hx (by simp [go_sem, h0, h1, vsx]) rfl
  · exact op_load ho hd hx (by simp [go_sem, h2, h3, vsx]) rfl
end
theorem MM.lower {w : World} {lo lo' bm : Nat} {al : List Ae} (h : MM w lo bm al) (hl : lo' ≤ lo) : MM w lo' bm al := ⟨h.out, Nat.le_trans hl h.hlo, fun e he => ⟨(h.inn e he).1, (h.inn e he).2.1, Nat.le_trans hl (h.inn e he).2.2.1, (h.inn e he).2.2.2⟩, h.ap⟩
theorem vsx_x {j : Nat} (hj : j < 2) (x n : Int) : vsx j x (x + n) = x + n * (j : Int) := by
  have h : j = 0 ∨ j = 1 := by omega
  rcases h with rfl | rfl <;> simp [vsx]
theorem vsx_y (j : Nat) (y : Int) : vsx j y y = y := by
  unfold vsx
  split <;> rfl
theorem fnd_new {al : List Ae} {v : Int × Int} {b : Nat} (h : fnd al v = none) : fnd (al ++ [⟨v, b, []⟩]) v = some ⟨v, b, []⟩ := by
  unfold fnd at h ⊢
  rw [List.find?_append, h]
  simp
theorem some_yes {f : Int → Int → Int} {g : Bool} {k : Nat} {n : Int} {s : Bool} {x y : Nat} (h : Em f g k n (!s) x y) (hy : (y : Int) < n) (hs : Sym f g k x y) : Em f g k n (!true) x (y + 1) := by
  have := h.cell hy
  rw [bP_true.2 hs] at this
  simpa using this
theorem some_no {f : Int → Int → Int} {g : Bool} {k : Nat} {n : Int} {s : Bool} {x y : Nat} (h : Em f g k n (!s) x y) (hy : (y : Int) < n) (hs : ¬ Sym f g k x y) : Em f g k n (!s) x (y + 1) := by
  have := h.cell hy
  rw [bP_false.2 hs] at this
  simpa using this
theorem some_all {f : Int → Int → Int} {g : Bool} {k : Nat} {n : Int} {s : Bool} {x : Nat} (h : Em f g k n (!s) x 0) (he : n ≤ x) (hn : 0 < n) (hp : Per n f) : s = bP (Ex f g k) := by
  have h1 := h.all he hn hp
  rw [← bP_not] at h1
  cases s <;> cases hb : bP (Ex f g k) <;> simp [hb] at h1 ⊢
theorem cls_of {f : Int → Int → Int} {g : Bool} {k : Nat} {n : Int} {al : List Ae} {m c : Bool} (h1 : m = bP (∃ e ∈ al, (0, 0) ∈ e.us)) (h2 : c = bP (∃ e ∈ al, m = true ∧ ¬ (0, 0) ∈ e.us)) (hm : (∃ e ∈ al, (0, 0) ∈ e.us) ↔ MirP n f g k) (hc : (∃ e ∈ al, ¬ (0, 0) ∈ e.us) ↔ CenP n f g k) : m = bP (MirP n f g k) ∧ c = bP (MirP n f g k ∧ CenP n f g k) := by
  have e1 : m = bP (MirP n f g k) := by rw [h1]; exact bP_congr hm
  refine ⟨e1, ?_⟩
  rw [h2]
  refine bP_congr ?_
  rw [← hc]
  constructor
  · rintro ⟨e, he, h3, h4⟩
    rw [e1, bP_true] at h3
    exact ⟨h3, e, he, h4⟩
  · rintro ⟨h3, e, he, h4⟩
    exact ⟨e, he, by rw [e1, bP_true]; exact h3, h4⟩
theorem zero_wf : WfV (0, 0) := wfV_small (by simp) (by simp)
set_option maxRecDepth 100000 in
set_option maxHeartbeats 1000000 in
theorem class_got (Wd Ht : Int) (ad : Addr) (k : Nat) (xs : List Int) (b : Nat) (n : Int) (g : Bool) (T : Nat) (hW : 1 ≤ Wd ∧ Wd ≤ 6) (hH : 1 ≤ Ht ∧ Ht ≤ 6) (w : World) (hri : RI w (some ad) xs) (hl : (xs.length : Int) = Wd * Ht) (hblk : Blk w b 27 [.int .i64 Wd, .int .i64 Ht, .slice (some ad) xs.length k]) (hn1 : 1 ≤ n ∧ n ≤ 30) (hper : Per n (colF Wd Ht xs)) (hT : T < 4) :
    Calls Try.prog 67 #[.agg #[.int .i64 Wd, .int .i64 Ht, .slice (some ad) xs.length k, .int .i64 n, .func (.func 82) #[] #[.pointer (some ⟨b, 0, none⟩)]], .agg #[.int .i64 0, .int .i64 0, .int .i64 (((T : Nat) : Int)), .bool g]] w (Got w (isV (.agg #[.bool (bP (Ex (colF Wd Ht xs) g T)), .bool (bP (MirP n (colF Wd Ht xs) g T)), .bool (bP (MirP n (colF Wd Ht xs) g T ∧ CenP n (colF Wd Ht xs) g T))])).p) := by
  have HRI := Hd.mk hri
  have HL := Hd.mk hl
  have HBK := Hd.mk hblk
  have HT4 := Hd.mk hT
  clear hri hblk
  have HW := Hd.mk hW
  have HH := Hd.mk hH
  have HPER := Hd.mk hper
  clear hper
  go_enter Try.func67, Try.ntmps67
  go_upto_region 1 with fail
  obtain ⟨W0, hW0⟩ : ∃ W : World, W = ((w.alloc (.cells #[.int .i64 Wd, .int .i64 Ht, .slice (some ad) xs.length k, .int .i64 n, .func (.func 82) #[] #[.pointer (some ⟨b, 0, none⟩)]] 104)).alloc (.cells #[.int .i64 0, .int .i64 0, .int .i64 (((T : Nat) : Int)), .bool g] 31)).alloc (.cells #[.bool false, .bool false, .bool false] 107) := ⟨_, rfl⟩
  rw [← hW0]
  obtain ⟨he, hb⟩ := env_three hW0
  have HE := Hd.mk he
  have HB := Hd.mk hb
  clear he hb hW0
  refine wp_region_vd 1 [5] [] [0] 107 [.bool false, .bool false, .bool false] [SP.any] (by rfl) alloc_C ?_ ?_
  · intro qi qh qA aa wx hb hs hd
    match qi, qh, qA with
    | 0, _, h => cases h
    | qi + 1, h, _ => omega
  · intro vs X1 hb hv hal hne
    have HL0 := Hd.mk (HE.out.lt)
    have HBW := HB
    replace HB := Hd.mk (bel_then HB.out hb)
    replace HE : Hd (Env X1 [⟨w.heap.size, 104, [.int .i64 Wd, .int .i64 Ht, .slice (some ad) xs.length k, .int .i64 n, .func (.func 82) #[] #[.pointer (some ⟨b, 0, none⟩)]]⟩, ⟨w.heap.size + 1, 31, [.int .i64 0, .int .i64 0, .int .i64 (((T : Nat) : Int)), .bool g]⟩, ⟨w.heap.size + 1 + 1, 107, [.bool false, .bool false, .bool false]⟩]) := ⟨HE.out.to hb⟩
    have HLS := HL0
    obtain ⟨g5, e5, l5, b5⟩ : ∃ g, vs 5 = .pointer (some ⟨g, 0, none⟩) ∧ _ := hal 0 rfl
    replace HE : Hd (Env X1 [⟨w.heap.size, 104, [.int .i64 Wd, .int .i64 Ht, .slice (some ad) xs.length k, .int .i64 n, .func (.func 82) #[] #[.pointer (some ⟨b, 0, none⟩)]]⟩, ⟨w.heap.size + 1, 31, [.int .i64 0, .int .i64 0, .int .i64 (((T : Nat) : Int)), .bool g]⟩, ⟨w.heap.size + 1 + 1, 107, [.bool false, .bool false, .bool false]⟩, ⟨g5, 107, [.bool false, .bool false, .bool false]⟩]) := ⟨Env.addne (e := ⟨g5, 107, [.bool false, .bool false, .bool false]⟩) HE.out b5 (fun e' he => Nat.ne_of_lt (Nat.lt_of_lt_of_le (HL0.out e' he) l5))⟩
    have G5 : Hd (w.heap.size ≤ g5) := ⟨Nat.le_trans HBW.out.size l5⟩
    simp only [putAll, List.foldl_cons, List.foldl_nil, Act.put, List.setIfInBounds_toArray, List.set_cons_succ, List.set_cons_zero, List.drop_succ_cons, List.drop_zero, e5]
    clear hv hal hne hb HL0 HBW HLS e5 l5 b5
    go_upto_region 2 with fail
    refine wp_region_vd 1 [19] [] [] 84 [.int .i64 0, .int .i64 0] [isMM X1.heap.size] (by rfl) alloc_Z ?_ ?_
    · intro qi qh qA aa wx hb hs hd
      match qi, qh, qA with
      | 0, _, _ => exact .inl ⟨rfl, op_mkMM rfl rfl _ hb.size⟩
      | qi + 1, h, _ => omega
    · intro vs X2 hb hv hal hne
      have HL0 := Hd.mk (HE.out.lt)
      have HBW := HB
      replace HB := Hd.mk (bel_then HB.out hb)
      replace HE : Hd (Env X2 [⟨w.heap.size, 104, [.int .i64 Wd, .int .i64 Ht, .slice (some ad) xs.length k, .int .i64 n, .func (.func 82) #[] #[.pointer (some ⟨b, 0, none⟩)]]⟩, ⟨w.heap.size + 1, 31, [.int .i64 0, .int .i64 0, .int .i64 (((T : Nat) : Int)), .bool g]⟩, ⟨w.heap.size + 1 + 1, 107, [.bool false, .bool false, .bool false]⟩, ⟨g5, 107, [.bool false, .bool false, .bool false]⟩]) := ⟨HE.out.to hb⟩
      have HLS := HL0
      obtain ⟨bm, e19, hmm⟩ : ∃ b, vs 19 = .map (some b) ∧ MM X2 X1.heap.size b [] := hv 0 (by decide) rfl
      have HM := Hd.mk (hmm.lower HBW.out.size)
      clear hmm
      simp only [putAll, List.foldl_cons, List.foldl_nil, Act.put, List.setIfInBounds_toArray, List.set_cons_succ, List.set_cons_zero, List.drop_succ_cons, List.drop_zero, e19]
      clear hv hal hne hb HL0 HBW HLS e19
      go_upto_region 3 with fail
      refine wp_region_vd 3 [20, 21, 22] [0, 2] [] 84 [.int .i64 0, .int .i64 0] [isV (.pointer (some ⟨w.heap.size, 3, none⟩)), isV (.int .i64 n), isV (.int .i64 0)] (by rfl) alloc_Z ?_ ?_
      · intro qi qh qA aa wx hb hs hd
        match qi, qh, qA with
        | 0, _, _ => exact .inl ⟨rfl, ⟨_, op_faP1 rfl (hs 2 rfl), rfl⟩⟩
        | 1, _, _ => exact .inl ⟨rfl, op_ldI rfl rfl (hd 0 rfl) ((HE.out.to hb).cell 0 3 rfl rfl)⟩
        | 2, _, _ => exact .inl ⟨rfl, op_mv rfl rfl⟩
        | qi + 3, h, _ => omega
      · intro vs X3 hb hv hal hne
        have HL0 := Hd.mk (HE.out.lt)
        have HBW := HB
        replace HB := Hd.mk (bel_then HB.out hb)
        replace HE : Hd (Env X3 [⟨w.heap.size, 104, [.int .i64 Wd, .int .i64 Ht, .slice (some ad) xs.length k, .int .i64 n, .func (.func 82) #[] #[.pointer (some ⟨b, 0, none⟩)]]⟩, ⟨w.heap.size + 1, 31, [.int .i64 0, .int .i64 0, .int .i64 (((T : Nat) : Int)), .bool g]⟩, ⟨w.heap.size + 1 + 1, 107, [.bool false, .bool false, .bool false]⟩, ⟨g5, 107, [.bool false, .bool false, .bool false]⟩]) := ⟨HE.out.to hb⟩
        have HLS := HL0
        replace HM := Hd.mk (HM.out.to hb)
        have e21 : vs 21 = .int .i64 n := hv 1 (by decide) rfl
        have e22 : vs 22 = .int .i64 0 := hv 2 (by decide) rfl
        simp only [putAll, List.foldl_cons, List.foldl_nil, Act.put, List.setIfInBounds_toArray, List.set_cons_succ, List.set_cons_zero, List.drop_succ_cons, List.drop_zero, e21, e22]
        generalize vs 20 = s20
        clear hv hal hne hb HL0 HBW HLS e21 e22
        go_wp2_with fail
        go_loopw [22] (fun sx wr => ∃ (x : Nat) (al : List Ae) (s : Bool), (x : Int) ≤ n ∧ sx = .int .i64 (x : Int) ∧ (Env wr [⟨w.heap.size, 104, [.int .i64 Wd, .int .i64 Ht, .slice (some ad) xs.length k, .int .i64 n, .func (.func 82) #[] #[.pointer (some ⟨b, 0, none⟩)]]⟩, ⟨w.heap.size + 1, 31, [.int .i64 0, .int .i64 0, .int .i64 (((T : Nat) : Int)), .bool g]⟩, ⟨w.heap.size + 1 + 1, 107, [.bool false, .bool false, .bool false]⟩, ⟨g5, 107, [.bool s, .bool false, .bool false]⟩] ∧ MM wr w.heap.size bm al ∧ Below w.heap.size w wr) ∧ Cov (colF Wd Ht xs) g T n al x 0 0 ∧ Em (colF Wd Ht xs) g T n (!s) x 0) (fun sx _ => n.toNat - (intOf sx).toNat)
        case atStart => exact ⟨0, _, _, by omega, rfl, ⟨HE.out, HM.out, HB.out⟩, Cov.start, Em.start⟩
        case round =>
          obtain ⟨x, al, s, hxn, rfl, ⟨he, hmm, hb⟩, hcv, hem⟩ := hrel
          clear HB HE HM
          have HB := Hd.mk hb
          have HE : Hd (Env wr [⟨w.heap.size, 104, [.int .i64 Wd, .int .i64 Ht, .slice (some ad) xs.length k, .int .i64 n, .func (.func 82) #[] #[.pointer (some ⟨b, 0, none⟩)]]⟩, ⟨w.heap.size + 1, 31, [.int .i64 0, .int .i64 0, .int .i64 (((T : Nat) : Int)), .bool g]⟩, ⟨w.heap.size + 1 + 1, 107, [.bool false, .bool false, .bool false]⟩, ⟨g5, 107, [.bool s, .bool false, .bool false]⟩]) := ⟨he⟩
          have HM := Hd.mk hmm
          clear he hmm hb
          have HCV := Hd.mk hcv
          have HEM := Hd.mk hem
          clear hcv hem
          by_cases hx : (x : Int) < n
          · skip
            go_upto_region 5 with fail
            refine wp_region_vd 1 [24] [0] [] 84 [.int .i64 0, .int .i64 0] [isV (.int .i64 (((x : Nat) : Int)))] (by rfl) alloc_Z ?_ ?_
            · intro qi qh qA aa wx hb hs hd
              match qi, qh, qA with
              | 0, _, _ => exact .inl ⟨rfl, op_mv rfl (hs 22 rfl)⟩
              | qi + 1, h, _ => omega
            · intro vs X1 hb hv hal hne
              have HL0 := Hd.mk (HE.out.lt)
              have HBW := HB
              replace HB := Hd.mk (bel_then HB.out hb)
              replace HE : Hd (Env X1 [⟨w.heap.size, 104, [.int .i64 Wd, .int .i64 Ht, .slice (some ad) xs.length k, .int .i64 n, .func (.func 82) #[] #[.pointer (some ⟨b, 0, none⟩)]]⟩, ⟨w.heap.size + 1, 31, [.int .i64 0, .int .i64 0, .int .i64 (((T : Nat) : Int)), .bool g]⟩, ⟨w.heap.size + 1 + 1, 107, [.bool false, .bool false, .bool false]⟩, ⟨g5, 107, [.bool s, .bool false, .bool false]⟩]) := ⟨HE.out.to hb⟩
              have HLS := HL0
              replace HM := Hd.mk (HM.out.to hb)
              have e24 : vs 24 = .int .i64 (((x : Nat) : Int)) := hv 0 (by decide) rfl
              simp only [putAll, List.foldl_cons, List.foldl_nil, Act.put, List.setIfInBounds_toArray, List.set_cons_succ, List.set_cons_zero, List.drop_succ_cons, List.drop_zero, e24]
              clear hv hal hne hb HL0 HBW HLS e24
              go_upto_region 6 with fail
              refine wp_region_vd 3 [25, 26, 27] [0, 2] [] 84 [.int .i64 0, .int .i64 0] [isV (.pointer (some ⟨w.heap.size, 3, none⟩)), isV (.int .i64 n), isV (.int .i64 0)] (by rfl) alloc_Z ?_ ?_
              · intro qi qh qA aa wx hb hs hd
                match qi, qh, qA with
                | 0, _, _ => exact .inl ⟨rfl, ⟨_, op_faP1 rfl (hs 2 rfl), rfl⟩⟩
                | 1, _, _ => exact .inl ⟨rfl, op_ldI rfl rfl (hd 0 rfl) ((HE.out.to hb).cell 0 3 rfl rfl)⟩
                | 2, _, _ => exact .inl ⟨rfl, op_mv rfl rfl⟩
                | qi + 3, h, _ => omega
              · intro vs X2 hb hv hal hne
                have HL0 := Hd.mk (HE.out.lt)
                have HBW := HB
                replace HB := Hd.mk (bel_then HB.out hb)
                replace HE : Hd (Env X2 [⟨w.heap.size, 104, [.int .i64 Wd, .int .i64 Ht, .slice (some ad) xs.length k, .int .i64 n, .func (.func 82) #[] #[.pointer (some ⟨b, 0, none⟩)]]⟩, ⟨w.heap.size + 1, 31, [.int .i64 0, .int .i64 0, .int .i64 (((T : Nat) : Int)), .bool g]⟩, ⟨w.heap.size + 1 + 1, 107, [.bool false, .bool false, .bool false]⟩, ⟨g5, 107, [.bool s, .bool false, .bool false]⟩]) := ⟨HE.out.to hb⟩
                have HLS := HL0
                replace HM := Hd.mk (HM.out.to hb)
                have e26 : vs 26 = .int .i64 n := hv 1 (by decide) rfl
                have e27 : vs 27 = .int .i64 0 := hv 2 (by decide) rfl
                simp only [putAll, List.foldl_cons, List.foldl_nil, Act.put, List.setIfInBounds_toArray, List.set_cons_succ, List.set_cons_zero, List.drop_succ_cons, List.drop_zero, e26, e27]
                generalize vs 25 = s25
                clear hv hal hne hb HL0 HBW HLS e26 e27
                go_wp2_with fail
                go_loopw [27] (fun sy wr => ∃ (y : Nat) (al : List Ae) (s : Bool), (y : Int) ≤ n ∧ sy = .int .i64 (y : Int) ∧ (Env wr [⟨w.heap.size, 104, [.int .i64 Wd, .int .i64 Ht, .slice (some ad) xs.length k, .int .i64 n, .func (.func 82) #[] #[.pointer (some ⟨b, 0, none⟩)]]⟩, ⟨w.heap.size + 1, 31, [.int .i64 0, .int .i64 0, .int .i64 (((T : Nat) : Int)), .bool g]⟩, ⟨w.heap.size + 1 + 1, 107, [.bool false, .bool false, .bool false]⟩, ⟨g5, 107, [.bool s, .bool false, .bool false]⟩] ∧ MM wr w.heap.size bm al ∧ Below w.heap.size w wr) ∧ Cov (colF Wd Ht xs) g T n al x y 0 ∧ Em (colF Wd Ht xs) g T n (!s) x y) (fun sy _ => n.toNat - (intOf sy).toNat)
                case atStart => exact ⟨0, _, _, by omega, rfl, ⟨HE.out, HM.out, HB.out⟩, HCV.out, HEM.out⟩
                case round =>
                  clear HCV HEM HB HE HM
                  clear s al
                  obtain ⟨y, al, s, hyn, rfl, ⟨he, hmm, hb⟩, hcv, hem⟩ := hrel
                  have HB := Hd.mk hb
                  have HE : Hd (Env wr [⟨w.heap.size, 104, [.int .i64 Wd, .int .i64 Ht, .slice (some ad) xs.length k, .int .i64 n, .func (.func 82) #[] #[.pointer (some ⟨b, 0, none⟩)]]⟩, ⟨w.heap.size + 1, 31, [.int .i64 0, .int .i64 0, .int .i64 (((T : Nat) : Int)), .bool g]⟩, ⟨w.heap.size + 1 + 1, 107, [.bool false, .bool false, .bool false]⟩, ⟨g5, 107, [.bool s, .bool false, .bool false]⟩]) := ⟨he⟩
                  have HM := Hd.mk hmm
                  have HCV := Hd.mk hcv
                  have HEM := Hd.mk hem
                  clear he hb hmm hcv hem
                  by_cases hy : (y : Int) < n
                  · skip
                    go_upto_region 8 with fail
                    refine wp_region_vd 1 [29] [0] [] 84 [.int .i64 0, .int .i64 0] [isV (.int .i64 (((y : Nat) : Int)))] (by rfl) alloc_Z ?_ ?_
                    · intro qi qh qA aa wx hb hs hd
                      match qi, qh, qA with
                      | 0, _, _ => exact .inl ⟨rfl, op_mv rfl (hs 27 rfl)⟩
                      | qi + 1, h, _ => omega
                    · intro vs X1 hb hv hal hne
                      have HL0 := Hd.mk (HE.out.lt)
                      have HBW := HB
                      replace HB := Hd.mk (bel_then HB.out hb)
                      replace HE : Hd (Env X1 [⟨w.heap.size, 104, [.int .i64 Wd, .int .i64 Ht, .slice (some ad) xs.length k, .int .i64 n, .func (.func 82) #[] #[.pointer (some ⟨b, 0, none⟩)]]⟩, ⟨w.heap.size + 1, 31, [.int .i64 0, .int .i64 0, .int .i64 (((T : Nat) : Int)), .bool g]⟩, ⟨w.heap.size + 1 + 1, 107, [.bool false, .bool false, .bool false]⟩, ⟨g5, 107, [.bool s, .bool false, .bool false]⟩]) := ⟨HE.out.to hb⟩
                      have HLS := HL0
                      replace HM := Hd.mk (HM.out.to hb)
                      have e29 : vs 29 = .int .i64 (((y : Nat) : Int)) := hv 0 (by decide) rfl
                      simp only [putAll, List.foldl_cons, List.foldl_nil, Act.put, List.setIfInBounds_toArray, List.set_cons_succ, List.set_cons_zero, List.drop_succ_cons, List.drop_zero, e29]
                      clear hv hal hne hb HL0 HBW HLS e29
                      by_cases hsy : Sym (colF Wd Ht xs) g T ((x : Nat) : Int) ((y : Nat) : Int)
                      · have HSY := Hd.mk hsy
                        clear hsy
                        go_upto_region 9 with fail
                        refine wp_region_vd 7 [30, 31, 32, 33, 34, 35, 36] [2, 3, 4, 6] [] 84 [.int .i64 0, .int .i64 0] [isV (.agg #[.int .i64 Wd, .int .i64 Ht, .slice (some ad) xs.length k, .int .i64 n, .func (.func 82) #[] #[.pointer (some ⟨b, 0, none⟩)]]), isV (.agg #[.int .i64 0, .int .i64 0, .int .i64 (((T : Nat) : Int)), .bool g]), isV (.int .i64 (((x : Nat) : Int))), isV (.int .i64 (((y : Nat) : Int))), isV (.agg #[.int .i64 (((x : Nat) : Int)), .int .i64 (((y : Nat) : Int))]), isV (.bool true), isV (.bool false)] (by rfl) alloc_Z ?_ ?_
                        · intro qi qh qA aa wx hb hs hd
                          match qi, qh, qA with
                          | 0, _, _ => exact .inl ⟨rfl, op_ldP rfl rfl (hs 2 rfl) ((HE.out.to hb).get 0 rfl)⟩
                          | 1, _, _ => exact .inl ⟨rfl, op_ldM rfl rfl (hs 3 rfl) ((HE.out.to hb).get 1 rfl)⟩
                          | 2, _, _ => exact .inl ⟨rfl, op_mv rfl (hs 7 rfl)⟩
                          | 3, _, _ => exact .inl ⟨rfl, op_mv rfl (hs 8 rfl)⟩
                          | 4, _, _ => exact .inl ⟨rfl, ⟨_, op_buV rfl (hd 2 rfl) (hd 3 rfl), rfl⟩⟩
                          | 5, _, _ => exact .inl ⟨rfl, wp_b (bool_eq (bP_true.2 HSY.out)) (op_call3 rfl rfl Try.call83 (by rw [(show aa.eval (.tmp 30) = .agg #[.int .i64 Wd, .int .i64 Ht, .slice (some ad) xs.length k, .int .i64 n, .func (.func 82) #[] #[.pointer (some ⟨b, 0, none⟩)]] from (hd 0 rfl)), (show aa.eval (.tmp 31) = .agg #[.int .i64 0, .int .i64 0, .int .i64 (((T : Nat) : Int)), .bool g] from (hd 1 rfl)), (show aa.eval (.tmp 34) = .agg #[.int .i64 (((x : Nat) : Int)), .int .i64 (((y : Nat) : Int))] from (hd 4 rfl))]; exact keeps_got Wd Ht ad k xs b n g T (((x : Nat) : Int)) (((y : Nat) : Int)) HW.out HH.out (by omega) (by omega) _ (HRI.out.to (bel_then HB.out hb)) HL.out (HBK.out.to (bel_then HB.out hb)) hn1 HPER.out HT4.out))⟩
                          | 6, _, _ => exact .inl ⟨rfl, ⟨_, op_not rfl (hd 5 rfl), rfl⟩⟩
                          | qi + 7, h, _ => omega
                        · intro vs X2 hb hv hal hne
                          have HL0 := Hd.mk (HE.out.lt)
                          have HBW := HB
                          replace HB := Hd.mk (bel_then HB.out hb)
                          replace HE : Hd (Env X2 [⟨w.heap.size, 104, [.int .i64 Wd, .int .i64 Ht, .slice (some ad) xs.length k, .int .i64 n, .func (.func 82) #[] #[.pointer (some ⟨b, 0, none⟩)]]⟩, ⟨w.heap.size + 1, 31, [.int .i64 0, .int .i64 0, .int .i64 (((T : Nat) : Int)), .bool g]⟩, ⟨w.heap.size + 1 + 1, 107, [.bool false, .bool false, .bool false]⟩, ⟨g5, 107, [.bool s, .bool false, .bool false]⟩]) := ⟨HE.out.to hb⟩
                          have HLS := HL0
                          replace HM := Hd.mk (HM.out.to hb)
                          have e36 : vs 36 = .bool false := hv 6 (by decide) rfl
                          simp only [putAll, List.foldl_cons, List.foldl_nil, Act.put, List.setIfInBounds_toArray, List.set_cons_succ, List.set_cons_zero, List.drop_succ_cons, List.drop_zero, e36]
                          generalize vs 30 = s30
                          generalize vs 31 = s31
                          generalize vs 32 = s32
                          generalize vs 33 = s33
                          generalize vs 34 = s34
                          generalize vs 35 = s35
                          clear hv hal hne hb HL0 HBW HLS e36
                          go_upto_region 10 with fail
                          refine wp_region_vd 1 [37] [0] [] 84 [.int .i64 0, .int .i64 0] [isV (.pointer (some ⟨g5, 0, none⟩))] (by rfl) alloc_Z ?_ ?_
                          · intro qi qh qA aa wx hb hs hd
                            match qi, qh, qA with
                            | 0, _, _ => exact .inl ⟨rfl, ⟨_, op_faC0 rfl (hs 5 rfl), rfl⟩⟩
                            | qi + 1, h, _ => omega
                          · intro vs X3 hb hv hal hne
                            have HL0 := Hd.mk (HE.out.lt)
                            have HBW := HB
                            replace HB := Hd.mk (bel_then HB.out hb)
                            replace HE : Hd (Env X3 [⟨w.heap.size, 104, [.int .i64 Wd, .int .i64 Ht, .slice (some ad) xs.length k, .int .i64 n, .func (.func 82) #[] #[.pointer (some ⟨b, 0, none⟩)]]⟩, ⟨w.heap.size + 1, 31, [.int .i64 0, .int .i64 0, .int .i64 (((T : Nat) : Int)), .bool g]⟩, ⟨w.heap.size + 1 + 1, 107, [.bool false, .bool false, .bool false]⟩, ⟨g5, 107, [.bool s, .bool false, .bool false]⟩]) := ⟨HE.out.to hb⟩
                            have HLS := HL0
                            replace HM := Hd.mk (HM.out.to hb)
                            have e37 : vs 37 = .pointer (some ⟨g5, 0, none⟩) := hv 0 (by decide) rfl
                            simp only [putAll, List.foldl_cons, List.foldl_nil, Act.put, List.setIfInBounds_toArray, List.set_cons_succ, List.set_cons_zero, List.drop_succ_cons, List.drop_zero, e37]
                            clear hv hal hne hb HL0 HBW HLS e37
                            refine wpList_st rfl rfl rfl rfl rfl (sto_B (HE.out.get 3 rfl) rfl) ?_
                            have HE' : Env (putL X3 g5 0 [.bool true]) [⟨w.heap.size, 104, [.int .i64 Wd, .int .i64 Ht, .slice (some ad) xs.length k, .int .i64 n, .func (.func 82) #[] #[.pointer (some ⟨b, 0, none⟩)]]⟩, ⟨w.heap.size + 1, 31, [.int .i64 0, .int .i64 0, .int .i64 (((T : Nat) : Int)), .bool g]⟩, ⟨w.heap.size + 1 + 1, 107, [.bool false, .bool false, .bool false]⟩, ⟨g5, 107, [.bool true, .bool false, .bool false]⟩] := HE.out.putO 3 rfl
                            have HB' := putL_below (show w.heap.size ≤ g5 from G5.out) [.bool true] _ 0 HB.out
                            replace HM := Hd.mk (HM.out.putB (vs := [.bool true]) (o := 0) (HE.out.get 3 rfl))
                            generalize putL X3 g5 0 [.bool true] = X4 at *
                            replace HE := Hd.mk HE'
                            replace HB := Hd.mk HB'
                            clear HE' HB'
                            have HEM1 := Hd.mk (some_yes HEM.out hy HSY.out)
                            clear HEM
                            go_upto_region 11 with fail
                            refine wp_region_vd 12 [38, 39, 40, 41, 42, 43, 44, 45, 46, 47, 48, 49] [0, 1, 2, 3, 4, 6, 7, 8, 11] [] 84 [.int .i64 0, .int .i64 0] [isV (.int .i64 (((x : Nat) : Int))), isV (.int .i64 (((y : Nat) : Int))), isV (.agg #[.int .i64 (((x : Nat) : Int)), .int .i64 (((y : Nat) : Int))]), isV (.int .i64 (((x : Nat) : Int))), isV (.pointer (some ⟨w.heap.size, 3, none⟩)), isV (.int .i64 n), isV (.int .i64 ((((x : Nat) : Int)) + n)), isV (.int .i64 (((y : Nat) : Int))), isV (.agg #[.int .i64 ((((x : Nat) : Int)) + n), .int .i64 (((y : Nat) : Int))]), isVS X4.heap.size (((x : Nat) : Int)) (((y : Nat) : Int)) (((x : Nat) : Int) + n) (((y : Nat) : Int)), isV (.int .i64 (((2 : Nat) : Int))), isV (.int .i64 0)] (by rfl) alloc_Z ?_ ?_
                            · intro qi qh qA aa wx hb hs hd
                              match qi, qh, qA with
                              | 0, _, _ => exact .inl ⟨rfl, op_mv rfl (hs 7 rfl)⟩
                              | 1, _, _ => exact .inl ⟨rfl, op_mv rfl (hs 8 rfl)⟩
                              | 2, _, _ => exact .inl ⟨rfl, ⟨_, op_buV rfl (hd 0 rfl) (hd 1 rfl), rfl⟩⟩
                              | 3, _, _ => exact .inl ⟨rfl, op_mv rfl (hs 7 rfl)⟩
                              | 4, _, _ => exact .inl ⟨rfl, ⟨_, op_faP1 rfl (hs 2 rfl), rfl⟩⟩
                              | 5, _, _ => exact .inl ⟨rfl, op_ldI rfl rfl (hd 4 rfl) ((HE.out.to hb).cell 0 3 rfl rfl)⟩
                              | 6, _, _ => exact .inl ⟨rfl, ⟨_, op_add (by unfold Fit; omega) rfl (hd 3 rfl) (hd 5 rfl), rfl⟩⟩
                              | 7, _, _ => exact .inl ⟨rfl, op_mv rfl (hs 8 rfl)⟩
                              | 8, _, _ => exact .inl ⟨rfl, ⟨_, op_buV rfl (hd 6 rfl) (hd 7 rfl), rfl⟩⟩
                              | 9, _, _ => exact .inl ⟨rfl, op_litV rfl rfl (hd 2 rfl) (hd 8 rfl) _ hb.size⟩
                              | 10, _, _ => exact .inl ⟨rfl, by obtain ⟨g, e, _⟩ := hd 9 rfl; exact op_lenVS rfl rfl e⟩
                              | 11, _, _ => exact .inl ⟨rfl, op_mv rfl rfl⟩
                              | qi + 12, h, _ => omega
                            · intro vs X5 hb hv hal hne
                              have HL0 := Hd.mk (HE.out.lt)
                              have HBW := HB
                              replace HB := Hd.mk (bel_then HB.out hb)
                              replace HE : Hd (Env X5 [⟨w.heap.size, 104, [.int .i64 Wd, .int .i64 Ht, .slice (some ad) xs.length k, .int .i64 n, .func (.func 82) #[] #[.pointer (some ⟨b, 0, none⟩)]]⟩, ⟨w.heap.size + 1, 31, [.int .i64 0, .int .i64 0, .int .i64 (((T : Nat) : Int)), .bool g]⟩, ⟨w.heap.size + 1 + 1, 107, [.bool false, .bool false, .bool false]⟩, ⟨g5, 107, [.bool true, .bool false, .bool false]⟩]) := ⟨HE.out.to hb⟩
                              have HLS := HL0
                              replace HM := Hd.mk (HM.out.to hb)
                              obtain ⟨g47, e47, l47, b47⟩ : ∃ g, vs 47 = .slice (some ⟨g, 0, none⟩) 2 2 ∧ X4.heap.size ≤ g ∧ Blk X5 g 130 [.int .i64 (((x : Nat) : Int)), .int .i64 (((y : Nat) : Int)), .int .i64 (((x : Nat) : Int) + n), .int .i64 (((y : Nat) : Int))] := hv 9 (by decide) rfl
                              replace HE : Hd (Env X5 [⟨w.heap.size, 104, [.int .i64 Wd, .int .i64 Ht, .slice (some ad) xs.length k, .int .i64 n, .func (.func 82) #[] #[.pointer (some ⟨b, 0, none⟩)]]⟩, ⟨w.heap.size + 1, 31, [.int .i64 0, .int .i64 0, .int .i64 (((T : Nat) : Int)), .bool g]⟩, ⟨w.heap.size + 1 + 1, 107, [.bool false, .bool false, .bool false]⟩, ⟨g5, 107, [.bool true, .bool false, .bool false]⟩, ⟨g47, 130, [.int .i64 (((x : Nat) : Int)), .int .i64 (((y : Nat) : Int)), .int .i64 (((x : Nat) : Int) + n), .int .i64 (((y : Nat) : Int))]⟩]) := ⟨Env.addne (e := ⟨g47, 130, [.int .i64 (((x : Nat) : Int)), .int .i64 (((y : Nat) : Int)), .int .i64 (((x : Nat) : Int) + n), .int .i64 (((y : Nat) : Int))]⟩) HE.out b47 (fun e' he => Nat.ne_of_lt (Nat.lt_of_lt_of_le (HL0.out e' he) l47))⟩
                              have G47 : Hd (w.heap.size ≤ g47) := ⟨Nat.le_trans HBW.out.size l47⟩
                              have e48 : vs 48 = .int .i64 (((2 : Nat) : Int)) := hv 10 (by decide) rfl
                              have e49 : vs 49 = .int .i64 0 := hv 11 (by decide) rfl
                              simp only [putAll, List.foldl_cons, List.foldl_nil, Act.put, List.setIfInBounds_toArray, List.set_cons_succ, List.set_cons_zero, List.drop_succ_cons, List.drop_zero, e47, e48, e49]
                              generalize vs 38 = s38
                              generalize vs 39 = s39
                              generalize vs 40 = s40
                              generalize vs 41 = s41
                              generalize vs 42 = s42
                              generalize vs 43 = s43
                              generalize vs 44 = s44
                              generalize vs 45 = s45
                              generalize vs 46 = s46
                              clear hv hal hne hb HL0 HBW HLS e47 e48 e49 l47 b47
                              go_wp2_with fail
                              go_loopw [49] (fun sj wr => ∃ (j : Nat) (al : List Ae), j ≤ 2 ∧ sj = .int .i64 (j : Int) ∧ (Env wr [⟨w.heap.size, 104, [.int .i64 Wd, .int .i64 Ht, .slice (some ad) xs.length k, .int .i64 n, .func (.func 82) #[] #[.pointer (some ⟨b, 0, none⟩)]]⟩, ⟨w.heap.size + 1, 31, [.int .i64 0, .int .i64 0, .int .i64 (((T : Nat) : Int)), .bool g]⟩, ⟨w.heap.size + 1 + 1, 107, [.bool false, .bool false, .bool false]⟩, ⟨g5, 107, [.bool true, .bool false, .bool false]⟩, ⟨g47, 130, [.int .i64 (((x : Nat) : Int)), .int .i64 (((y : Nat) : Int)), .int .i64 (((x : Nat) : Int) + n), .int .i64 (((y : Nat) : Int))]⟩] ∧ MM wr w.heap.size bm al ∧ Below w.heap.size w wr) ∧ Cov (colF Wd Ht xs) g T n al x y j) (fun sj _ => 2 - (intOf sj).toNat)
                              case atStart => exact ⟨0, _, by omega, rfl, ⟨HE.out, HM.out, HB.out⟩, HCV.out⟩
                              case round =>
                                clear HCV HB HE HM
                                clear al
                                obtain ⟨j, al, hjn, rfl, ⟨he, hmm, hb⟩, hcv⟩ := hrel
                                have HB := Hd.mk hb
                                have HE : Hd (Env wr [⟨w.heap.size, 104, [.int .i64 Wd, .int .i64 Ht, .slice (some ad) xs.length k, .int .i64 n, .func (.func 82) #[] #[.pointer (some ⟨b, 0, none⟩)]]⟩, ⟨w.heap.size + 1, 31, [.int .i64 0, .int .i64 0, .int .i64 (((T : Nat) : Int)), .bool g]⟩, ⟨w.heap.size + 1 + 1, 107, [.bool false, .bool false, .bool false]⟩, ⟨g5, 107, [.bool true, .bool false, .bool false]⟩, ⟨g47, 130, [.int .i64 (((x : Nat) : Int)), .int .i64 (((y : Nat) : Int)), .int .i64 (((x : Nat) : Int) + n), .int .i64 (((y : Nat) : Int))]⟩]) := ⟨he⟩
                                have HM := Hd.mk hmm
                                have HCV := Hd.mk hcv
                                clear he hb hmm hcv
                                by_cases hj : j < 2
                                · have hnj := mul_b (a := n) (b := ((j : Nat) : Int)) (A := 30) (B := 1) (by omega) (by omega)
                                  go_upto_region 13 with fail
                                  refine wp_region_vd 3 [51, 52, 10] [0] [2] 130 [.int .i64 0, .int .i64 0] [isV (.pointer (some ⟨g47, 2 * j, none⟩)), isV (.agg #[.int .i64 (((x : Nat) : Int) + n * ((j : Nat) : Int)), .int .i64 (((y : Nat) : Int))]), SP.any] (by rfl) alloc_V ?_ ?_
                                  · intro qi qh qA aa wx hb hs hd
                                    match qi, qh, qA with
                                    | 0, _, _ => exact .inl ⟨rfl, ⟨_, op_idxVS hj rfl (hs 47 rfl) (hs 49 rfl), rfl⟩⟩
                                    | 1, _, _ => exact .inl ⟨rfl, wp_b (show Value.agg #[.int .i64 (vsx j _ _), .int .i64 (vsx j _ _)] = .agg #[.int .i64 _, .int .i64 _] from by rw [vsx_x hj, vsx_y]) (op_ldVS hj rfl rfl (hd 0 rfl) ((HE.out.to hb).get 4 rfl))⟩
                                    | 2, _, h => cases h
                                    | qi + 3, h, _ => omega
                                  · intro vs X1 hb hv hal hne
                                    have HL0 := Hd.mk (HE.out.lt)
                                    have HBW := HB
                                    replace HB := Hd.mk (bel_then HB.out hb)
                                    replace HE : Hd (Env X1 [⟨w.heap.size, 104, [.int .i64 Wd, .int .i64 Ht, .slice (some ad) xs.length k, .int .i64 n, .func (.func 82) #[] #[.pointer (some ⟨b, 0, none⟩)]]⟩, ⟨w.heap.size + 1, 31, [.int .i64 0, .int .i64 0, .int .i64 (((T : Nat) : Int)), .bool g]⟩, ⟨w.heap.size + 1 + 1, 107, [.bool false, .bool false, .bool false]⟩, ⟨g5, 107, [.bool true, .bool false, .bool false]⟩, ⟨g47, 130, [.int .i64 (((x : Nat) : Int)), .int .i64 (((y : Nat) : Int)), .int .i64 (((x : Nat) : Int) + n), .int .i64 (((y : Nat) : Int))]⟩]) := ⟨HE.out.to hb⟩
                                    have HLS := HL0
                                    replace HM := Hd.mk (HM.out.to hb)
                                    have e52 : vs 52 = .agg #[.int .i64 (((x : Nat) : Int) + n * ((j : Nat) : Int)), .int .i64 (((y : Nat) : Int))] := hv 1 (by decide) rfl
                                    obtain ⟨g10, e10, l10, b10⟩ : ∃ g, vs 10 = .pointer (some ⟨g, 0, none⟩) ∧ _ := hal 2 rfl
                                    replace HE : Hd (Env X1 [⟨w.heap.size, 104, [.int .i64 Wd, .int .i64 Ht, .slice (some ad) xs.length k, .int .i64 n, .func (.func 82) #[] #[.pointer (some ⟨b, 0, none⟩)]]⟩, ⟨w.heap.size + 1, 31, [.int .i64 0, .int .i64 0, .int .i64 (((T : Nat) : Int)), .bool g]⟩, ⟨w.heap.size + 1 + 1, 107, [.bool false, .bool false, .bool false]⟩, ⟨g5, 107, [.bool true, .bool false, .bool false]⟩, ⟨g47, 130, [.int .i64 (((x : Nat) : Int)), .int .i64 (((y : Nat) : Int)), .int .i64 (((x : Nat) : Int) + n), .int .i64 (((y : Nat) : Int))]⟩, ⟨g10, 130, [.int .i64 0, .int .i64 0]⟩]) := ⟨Env.addne (e := ⟨g10, 130, [.int .i64 0, .int .i64 0]⟩) HE.out b10 (fun e' he => Nat.ne_of_lt (Nat.lt_of_lt_of_le (HL0.out e' he) l10))⟩
                                    have G10 : Hd (w.heap.size ≤ g10) := ⟨Nat.le_trans HBW.out.size l10⟩
                                    simp only [putAll, List.foldl_cons, List.foldl_nil, Act.put, List.setIfInBounds_toArray, List.set_cons_succ, List.set_cons_zero, List.drop_succ_cons, List.drop_zero, e52, e10]
                                    generalize vs 51 = s51
                                    clear hv hal hne hb HL0 HBW HLS e52 e10 l10 b10
                                    refine wpList_st rfl rfl rfl rfl rfl (sto_V (HE.out.get 5 rfl)) ?_
                                    have HE' : Env (putL X1 g10 0 [.int .i64 (((x : Nat) : Int) + n * ((j : Nat) : Int)), .int .i64 (((y : Nat) : Int))]) [⟨w.heap.size, 104, [.int .i64 Wd, .int .i64 Ht, .slice (some ad) xs.length k, .int .i64 n, .func (.func 82) #[] #[.pointer (some ⟨b, 0, none⟩)]]⟩, ⟨w.heap.size + 1, 31, [.int .i64 0, .int .i64 0, .int .i64 (((T : Nat) : Int)), .bool g]⟩, ⟨w.heap.size + 1 + 1, 107, [.bool false, .bool false, .bool false]⟩, ⟨g5, 107, [.bool true, .bool false, .bool false]⟩, ⟨g47, 130, [.int .i64 (((x : Nat) : Int)), .int .i64 (((y : Nat) : Int)), .int .i64 (((x : Nat) : Int) + n), .int .i64 (((y : Nat) : Int))]⟩, ⟨g10, 130, [.int .i64 (((x : Nat) : Int) + n * ((j : Nat) : Int)), .int .i64 (((y : Nat) : Int))]⟩] := HE.out.putF 5 rfl rfl
                                    have HB' := putL_below (show w.heap.size ≤ g10 from G10.out) [.int .i64 (((x : Nat) : Int) + n * ((j : Nat) : Int)), .int .i64 (((y : Nat) : Int))] _ 0 HB.out
                                    replace HM := Hd.mk (HM.out.putB (vs := [.int .i64 (((x : Nat) : Int) + n * ((j : Nat) : Int)), .int .i64 (((y : Nat) : Int))]) (o := 0) (HE.out.get 5 rfl))
                                    generalize putL X1 g10 0 [.int .i64 (((x : Nat) : Int) + n * ((j : Nat) : Int)), .int .i64 (((y : Nat) : Int))] = X2 at *
                                    replace HE := Hd.mk HE'
                                    replace HB := Hd.mk HB'
                                    clear HE' HB'
                                    obtain ⟨tb1, tb2⟩ := trn_bound g (x := (((x : Nat) : Int) + n * ((j : Nat) : Int))) (y := ((y : Nat) : Int)) (b := 60) (by omega) (by omega) T
                                    go_upto_region 14 with fail
                                    refine wp_region_vd 9 [54, 55, 56, 57, 58, 59, 53, 60, 61] [1, 3, 6, 7, 8] [] 84 [.int .i64 0, .int .i64 0] [isV (.agg #[.int .i64 0, .int .i64 0, .int .i64 (((T : Nat) : Int)), .bool g]), isV (.pointer (some ⟨g10, 0, none⟩)), isV (.int .i64 (((x : Nat) : Int) + n * ((j : Nat) : Int))), isV (.pointer (some ⟨g10, 1, none⟩)), isV (.int .i64 (((y : Nat) : Int))), isP (isV (.int .i64 ((trn g (((x : Nat) : Int) + n * ((j : Nat) : Int)) (((y : Nat) : Int)) T).1))) (isV (.int .i64 ((trn g (((x : Nat) : Int) + n * ((j : Nat) : Int)) (((y : Nat) : Int)) T).2))), isP (isV (.int .i64 ((trn g (((x : Nat) : Int) + n * ((j : Nat) : Int)) (((y : Nat) : Int)) T).1))) (isV (.int .i64 ((trn g (((x : Nat) : Int) + n * ((j : Nat) : Int)) (((y : Nat) : Int)) T).2))), isV (.int .i64 ((trn g (((x : Nat) : Int) + n * ((j : Nat) : Int)) (((y : Nat) : Int)) T).1)), isV (.int .i64 ((trn g (((x : Nat) : Int) + n * ((j : Nat) : Int)) (((y : Nat) : Int)) T).2))] (by rfl) alloc_Z ?_ ?_
                                    · intro qi qh qA aa wx hb hs hd
                                      match qi, qh, qA with
                                      | 0, _, _ => exact .inl ⟨rfl, op_ldM rfl rfl (hs 3 rfl) ((HE.out.to hb).get 1 rfl)⟩
                                      | 1, _, _ => exact .inl ⟨rfl, ⟨_, op_faV0 rfl (hs 10 rfl), rfl⟩⟩
                                      | 2, _, _ => exact .inl ⟨rfl, op_ldI rfl rfl (hd 1 rfl) ((HE.out.to hb).cell 5 0 rfl rfl)⟩
                                      | 3, _, _ => exact .inl ⟨rfl, ⟨_, op_faV1 rfl (hs 10 rfl), rfl⟩⟩
                                      | 4, _, _ => exact .inl ⟨rfl, op_ldI rfl rfl (hd 3 rfl) ((HE.out.to hb).cell 5 1 rfl rfl)⟩
                                      | 5, _, _ => exact .inl ⟨rfl, op_call3 rfl rfl Try.call58 (by rw [(show aa.eval (.tmp 54) = .agg #[.int .i64 0, .int .i64 0, .int .i64 (((T : Nat) : Int)), .bool g] from (hd 0 rfl)), (show aa.eval (.tmp 56) = .int .i64 (((x : Nat) : Int) + n * ((j : Nat) : Int)) from (hd 2 rfl)), (show aa.eval (.tmp 58) = .int .i64 (((y : Nat) : Int)) from (hd 4 rfl))]; exact turned_nat 0 0 T g (((x : Nat) : Int) + n * ((j : Nat) : Int)) (((y : Nat) : Int)) HT4.out (by omega) (by omega) _)⟩
                                      | 6, _, _ => exact .inl ⟨rfl, op_mv rfl (hd 5 rfl)⟩
                                      | 7, _, _ => exact .inl ⟨rfl, op_fst rfl (hd 6 rfl)⟩
                                      | 8, _, _ => exact .inl ⟨rfl, op_snd rfl (hd 6 rfl)⟩
                                      | qi + 9, h, _ => omega
                                    · intro vs X3 hb hv hal hne
                                      have HL0 := Hd.mk (HE.out.lt)
                                      have HBW := HB
                                      replace HB := Hd.mk (bel_then HB.out hb)
                                      replace HE : Hd (Env X3 [⟨w.heap.size, 104, [.int .i64 Wd, .int .i64 Ht, .slice (some ad) xs.length k, .int .i64 n, .func (.func 82) #[] #[.pointer (some ⟨b, 0, none⟩)]]⟩, ⟨w.heap.size + 1, 31, [.int .i64 0, .int .i64 0, .int .i64 (((T : Nat) : Int)), .bool g]⟩, ⟨w.heap.size + 1 + 1, 107, [.bool false, .bool false, .bool false]⟩, ⟨g5, 107, [.bool true, .bool false, .bool false]⟩, ⟨g47, 130, [.int .i64 (((x : Nat) : Int)), .int .i64 (((y : Nat) : Int)), .int .i64 (((x : Nat) : Int) + n), .int .i64 (((y : Nat) : Int))]⟩, ⟨g10, 130, [.int .i64 (((x : Nat) : Int) + n * ((j : Nat) : Int)), .int .i64 (((y : Nat) : Int))]⟩]) := ⟨HE.out.to hb⟩
                                      have HLS := HL0
                                      replace HM := Hd.mk (HM.out.to hb)
                                      have e60 : vs 60 = .int .i64 ((trn g (((x : Nat) : Int) + n * ((j : Nat) : Int)) (((y : Nat) : Int)) T).1) := hv 7 (by decide) rfl
                                      have e61 : vs 61 = .int .i64 ((trn g (((x : Nat) : Int) + n * ((j : Nat) : Int)) (((y : Nat) : Int)) T).2) := hv 8 (by decide) rfl
                                      simp only [putAll, List.foldl_cons, List.foldl_nil, Act.put, List.setIfInBounds_toArray, List.set_cons_succ, List.set_cons_zero, List.drop_succ_cons, List.drop_zero, e60, e61]
                                      generalize vs 54 = s54
                                      generalize vs 55 = s55
                                      generalize vs 56 = s56
                                      generalize vs 57 = s57
                                      generalize vs 58 = s58
                                      generalize vs 59 = s59
                                      generalize vs 53 = s53
                                      clear hv hal hne hb HL0 HBW HLS e60 e61
                                      go_upto_region 15 with fail
                                      refine wp_region_vs 22 [62, 63, 64, 65, 66, 67, 68, 69, 70, 71, 72, 73, 74, 75, 76, 77, 78, 79, 80, 81, 13, 14] [1, 3, 4, 5, 7, 8, 11, 13, 14, 15, 17, 18] [20, 21] 130 [.int .i64 0, .int .i64 0] [isV (.agg #[.int .i64 Wd, .int .i64 Ht, .slice (some ad) xs.length k, .int .i64 n, .func (.func 82) #[] #[.pointer (some ⟨b, 0, none⟩)]]), isV (.pointer (some ⟨g10, 0, none⟩)), isV (.int .i64 (((x : Nat) : Int) + n * ((j : Nat) : Int))), isV (.int .i64 ((trn g (((x : Nat) : Int) + n * ((j : Nat) : Int)) (((y : Nat) : Int)) T).1)), isV (.int .i64 ((((x : Nat) : Int) + n * ((j : Nat) : Int)) + ((trn g (((x : Nat) : Int) + n * ((j : Nat) : Int)) (((y : Nat) : Int)) T).1))), isV (.pointer (some ⟨g10, 1, none⟩)), isV (.int .i64 (((y : Nat) : Int))), isV (.int .i64 ((trn g (((x : Nat) : Int) + n * ((j : Nat) : Int)) (((y : Nat) : Int)) T).2)), isV (.int .i64 ((((y : Nat) : Int)) + ((trn g (((x : Nat) : Int) + n * ((j : Nat) : Int)) (((y : Nat) : Int)) T).2))), isV (.agg #[.int .i64 (((((x : Nat) : Int) + n * ((j : Nat) : Int)) + ((trn g (((x : Nat) : Int) + n * ((j : Nat) : Int)) (((y : Nat) : Int)) T).1)) % (2 * n)), .int .i64 (((((y : Nat) : Int)) + ((trn g (((x : Nat) : Int) + n * ((j : Nat) : Int)) (((y : Nat) : Int)) T).2)) % (2 * n))]), isV (.agg #[.int .i64 Wd, .int .i64 Ht, .slice (some ad) xs.length k, .int .i64 n, .func (.func 82) #[] #[.pointer (some ⟨b, 0, none⟩)]]), isV (.pointer (some ⟨g10, 0, none⟩)), isV (.int .i64 (((x : Nat) : Int) + n * ((j : Nat) : Int))), isV (.int .i64 ((trn g (((x : Nat) : Int) + n * ((j : Nat) : Int)) (((y : Nat) : Int)) T).1)), isV (.int .i64 ((((x : Nat) : Int) + n * ((j : Nat) : Int)) - ((trn g (((x : Nat) : Int) + n * ((j : Nat) : Int)) (((y : Nat) : Int)) T).1))), isV (.pointer (some ⟨g10, 1, none⟩)), isV (.int .i64 (((y : Nat) : Int))), isV (.int .i64 ((trn g (((x : Nat) : Int) + n * ((j : Nat) : Int)) (((y : Nat) : Int)) T).2)), isV (.int .i64 ((((y : Nat) : Int)) - ((trn g (((x : Nat) : Int) + n * ((j : Nat) : Int)) (((y : Nat) : Int)) T).2))), isV (.agg #[.int .i64 (((((x : Nat) : Int) + n * ((j : Nat) : Int)) - ((trn g (((x : Nat) : Int) + n * ((j : Nat) : Int)) (((y : Nat) : Int)) T).1)) % (2 * n)), .int .i64 (((((y : Nat) : Int)) - ((trn g (((x : Nat) : Int) + n * ((j : Nat) : Int)) (((y : Nat) : Int)) T).2)) % (2 * n))]), SP.any, SP.any] (by kernel_rfl) (by kernel_rfl) (by kernel_rfl) (by rfl) alloc_V (fun d v c a w h => by cases d <;> exact h) ?_ ?_
                                      · intro qi qh qA aa wx hb hs hd
                                        match qi, qh, qA with
                                        | 0, _, _ => exact op_ldP rfl rfl (hs 2 rfl) ((HE.out.to hb).get 0 rfl)
                                        | 1, _, _ => exact ⟨_, op_faV0 rfl (hs 10 rfl), rfl⟩
                                        | 2, _, _ => exact op_ldI rfl rfl (hd 1 rfl) ((HE.out.to hb).cell 5 0 rfl rfl)
                                        | 3, _, _ => exact op_mv rfl (hs 11 rfl)
                                        | 4, _, _ => exact ⟨_, op_add (by unfold Fit; omega) rfl (hd 2 rfl) (hd 3 rfl), rfl⟩
                                        | 5, _, _ => exact ⟨_, op_faV1 rfl (hs 10 rfl), rfl⟩
                                        | 6, _, _ => exact op_ldI rfl rfl (hd 5 rfl) ((HE.out.to hb).cell 5 1 rfl rfl)
                                        | 7, _, _ => exact op_mv rfl (hs 12 rfl)
                                        | 8, _, _ => exact ⟨_, op_add (by unfold Fit; omega) rfl (hd 6 rfl) (hd 7 rfl), rfl⟩
                                        | 9, _, _ => exact op_call3 rfl rfl Try.call84 (by rw [(show aa.eval (.tmp 62) = .agg #[.int .i64 Wd, .int .i64 Ht, .slice (some ad) xs.length k, .int .i64 n, .func (.func 82) #[] #[.pointer (some ⟨b, 0, none⟩)]] from (hd 0 rfl)), (show aa.eval (.tmp 66) = .int .i64 ((((x : Nat) : Int) + n * ((j : Nat) : Int)) + ((trn g (((x : Nat) : Int) + n * ((j : Nat) : Int)) (((y : Nat) : Int)) T).1)) from (hd 4 rfl)), (show aa.eval (.tmp 70) = .int .i64 ((((y : Nat) : Int)) + ((trn g (((x : Nat) : Int) + n * ((j : Nat) : Int)) (((y : Nat) : Int)) T).2)) from (hd 8 rfl))]; exact twice_got Wd Ht (some ad) xs.length k n b ((((x : Nat) : Int) + n * ((j : Nat) : Int)) + ((trn g (((x : Nat) : Int) + n * ((j : Nat) : Int)) (((y : Nat) : Int)) T).1)) ((((y : Nat) : Int)) + ((trn g (((x : Nat) : Int) + n * ((j : Nat) : Int)) (((y : Nat) : Int)) T).2)) hn1 (by omega) (by omega) _)
                                        | 10, _, _ => exact op_ldP rfl rfl (hs 2 rfl) ((HE.out.to hb).get 0 rfl)
                                        | 11, _, _ => exact ⟨_, op_faV0 rfl (hs 10 rfl), rfl⟩
                                        | 12, _, _ => exact op_ldI rfl rfl (hd 11 rfl) ((HE.out.to hb).cell 5 0 rfl rfl)
                                        | 13, _, _ => exact op_mv rfl (hs 11 rfl)
                                        | 14, _, _ => exact ⟨_, op_sub (by unfold Fit; omega) rfl (hd 12 rfl) (hd 13 rfl), rfl⟩
                                        | 15, _, _ => exact ⟨_, op_faV1 rfl (hs 10 rfl), rfl⟩
                                        | 16, _, _ => exact op_ldI rfl rfl (hd 15 rfl) ((HE.out.to hb).cell 5 1 rfl rfl)
                                        | 17, _, _ => exact op_mv rfl (hs 12 rfl)
                                        | 18, _, _ => exact ⟨_, op_sub (by unfold Fit; omega) rfl (hd 16 rfl) (hd 17 rfl), rfl⟩
                                        | 19, _, _ => exact op_call3 rfl rfl Try.call84 (by rw [(show aa.eval (.tmp 72) = .agg #[.int .i64 Wd, .int .i64 Ht, .slice (some ad) xs.length k, .int .i64 n, .func (.func 82) #[] #[.pointer (some ⟨b, 0, none⟩)]] from (hd 10 rfl)), (show aa.eval (.tmp 76) = .int .i64 ((((x : Nat) : Int) + n * ((j : Nat) : Int)) - ((trn g (((x : Nat) : Int) + n * ((j : Nat) : Int)) (((y : Nat) : Int)) T).1)) from (hd 14 rfl)), (show aa.eval (.tmp 80) = .int .i64 ((((y : Nat) : Int)) - ((trn g (((x : Nat) : Int) + n * ((j : Nat) : Int)) (((y : Nat) : Int)) T).2)) from (hd 18 rfl))]; exact twice_got Wd Ht (some ad) xs.length k n b ((((x : Nat) : Int) + n * ((j : Nat) : Int)) - ((trn g (((x : Nat) : Int) + n * ((j : Nat) : Int)) (((y : Nat) : Int)) T).1)) ((((y : Nat) : Int)) - ((trn g (((x : Nat) : Int) + n * ((j : Nat) : Int)) (((y : Nat) : Int)) T).2)) hn1 (by omega) (by omega) _)
                                        | 20, _, h => cases h
                                        | 21, _, h => cases h
                                        | qi + 22, h, _ => omega
                                      · intro vs X4 hb hv hal hne
                                        have HL0 := Hd.mk (HE.out.lt)
                                        have HBW := HB
                                        replace HB := Hd.mk (bel_then HB.out hb)
                                        replace HE : Hd (Env X4 [⟨w.heap.size, 104, [.int .i64 Wd, .int .i64 Ht, .slice (some ad) xs.length k, .int .i64 n, .func (.func 82) #[] #[.pointer (some ⟨b, 0, none⟩)]]⟩, ⟨w.heap.size + 1, 31, [.int .i64 0, .int .i64 0, .int .i64 (((T : Nat) : Int)), .bool g]⟩, ⟨w.heap.size + 1 + 1, 107, [.bool false, .bool false, .bool false]⟩, ⟨g5, 107, [.bool true, .bool false, .bool false]⟩, ⟨g47, 130, [.int .i64 (((x : Nat) : Int)), .int .i64 (((y : Nat) : Int)), .int .i64 (((x : Nat) : Int) + n), .int .i64 (((y : Nat) : Int))]⟩, ⟨g10, 130, [.int .i64 (((x : Nat) : Int) + n * ((j : Nat) : Int)), .int .i64 (((y : Nat) : Int))]⟩]) := ⟨HE.out.to hb⟩
                                        have HLS := HL0
                                        replace HM := Hd.mk (HM.out.to hb)
                                        have e71 : vs 71 = .agg #[.int .i64 (((((x : Nat) : Int) + n * ((j : Nat) : Int)) + ((trn g (((x : Nat) : Int) + n * ((j : Nat) : Int)) (((y : Nat) : Int)) T).1)) % (2 * n)), .int .i64 (((((y : Nat) : Int)) + ((trn g (((x : Nat) : Int) + n * ((j : Nat) : Int)) (((y : Nat) : Int)) T).2)) % (2 * n))] := hv 9 (by decide) rfl
                                        have e81 : vs 81 = .agg #[.int .i64 (((((x : Nat) : Int) + n * ((j : Nat) : Int)) - ((trn g (((x : Nat) : Int) + n * ((j : Nat) : Int)) (((y : Nat) : Int)) T).1)) % (2 * n)), .int .i64 (((((y : Nat) : Int)) - ((trn g (((x : Nat) : Int) + n * ((j : Nat) : Int)) (((y : Nat) : Int)) T).2)) % (2 * n))] := hv 19 (by decide) rfl
                                        obtain ⟨g13, e13, l13, b13⟩ : ∃ g, vs 13 = .pointer (some ⟨g, 0, none⟩) ∧ _ := hal 20 rfl
                                        obtain ⟨g14, e14, l14, b14⟩ : ∃ g, vs 14 = .pointer (some ⟨g, 0, none⟩) ∧ _ := hal 21 rfl
                                        replace HE : Hd (Env X4 [⟨w.heap.size, 104, [.int .i64 Wd, .int .i64 Ht, .slice (some ad) xs.length k, .int .i64 n, .func (.func 82) #[] #[.pointer (some ⟨b, 0, none⟩)]]⟩, ⟨w.heap.size + 1, 31, [.int .i64 0, .int .i64 0, .int .i64 (((T : Nat) : Int)), .bool g]⟩, ⟨w.heap.size + 1 + 1, 107, [.bool false, .bool false, .bool false]⟩, ⟨g5, 107, [.bool true, .bool false, .bool false]⟩, ⟨g47, 130, [.int .i64 (((x : Nat) : Int)), .int .i64 (((y : Nat) : Int)), .int .i64 (((x : Nat) : Int) + n), .int .i64 (((y : Nat) : Int))]⟩, ⟨g10, 130, [.int .i64 (((x : Nat) : Int) + n * ((j : Nat) : Int)), .int .i64 (((y : Nat) : Int))]⟩, ⟨g13, 130, [.int .i64 0, .int .i64 0]⟩]) := ⟨Env.addne (e := ⟨g13, 130, [.int .i64 0, .int .i64 0]⟩) HE.out b13 (fun e' he => Nat.ne_of_lt (Nat.lt_of_lt_of_le (HL0.out e' he) l13))⟩
                                        have G13 : Hd (w.heap.size ≤ g13) := ⟨Nat.le_trans HBW.out.size l13⟩
                                        replace HE : Hd (Env X4 [⟨w.heap.size, 104, [.int .i64 Wd, .int .i64 Ht, .slice (some ad) xs.length k, .int .i64 n, .func (.func 82) #[] #[.pointer (some ⟨b, 0, none⟩)]]⟩, ⟨w.heap.size + 1, 31, [.int .i64 0, .int .i64 0, .int .i64 (((T : Nat) : Int)), .bool g]⟩, ⟨w.heap.size + 1 + 1, 107, [.bool false, .bool false, .bool false]⟩, ⟨g5, 107, [.bool true, .bool false, .bool false]⟩, ⟨g47, 130, [.int .i64 (((x : Nat) : Int)), .int .i64 (((y : Nat) : Int)), .int .i64 (((x : Nat) : Int) + n), .int .i64 (((y : Nat) : Int))]⟩, ⟨g10, 130, [.int .i64 (((x : Nat) : Int) + n * ((j : Nat) : Int)), .int .i64 (((y : Nat) : Int))]⟩, ⟨g13, 130, [.int .i64 0, .int .i64 0]⟩, ⟨g14, 130, [.int .i64 0, .int .i64 0]⟩]) := ⟨Env.addne (e := ⟨g14, 130, [.int .i64 0, .int .i64 0]⟩) HE.out b14 (fun e' he => (List.mem_append.1 (show e' ∈ _ ++ [_] from he)).elim (fun he => Nat.ne_of_lt (Nat.lt_of_lt_of_le (HL0.out e' he) l14)) (fun he => by rw [List.mem_singleton.1 he]; exact ptr_ne (by rw [← e13, ← e14]; exact hne 20 21 rfl rfl (by decide))))⟩
                                        have G14 : Hd (w.heap.size ≤ g14) := ⟨Nat.le_trans HBW.out.size l14⟩
                                        simp only [putAll, List.foldl_cons, List.foldl_nil, Act.put, List.setIfInBounds_toArray, List.set_cons_succ, List.set_cons_zero, List.drop_succ_cons, List.drop_zero, e71, e81, e13, e14]
                                        generalize vs 62 = s62
                                        generalize vs 63 = s63
                                        generalize vs 64 = s64
                                        generalize vs 65 = s65
                                        generalize vs 66 = s66
                                        generalize vs 67 = s67
                                        generalize vs 68 = s68
                                        generalize vs 69 = s69
                                        generalize vs 70 = s70
                                        generalize vs 72 = s72
                                        generalize vs 73 = s73
                                        generalize vs 74 = s74
                                        generalize vs 75 = s75
                                        generalize vs 76 = s76
                                        generalize vs 77 = s77
                                        generalize vs 78 = s78
                                        generalize vs 79 = s79
                                        generalize vs 80 = s80
                                        clear hv hal hne hb HL0 HBW HLS e71 e81 e13 e14 l13 l14 b13 b14
                                        refine wpList_st rfl rfl rfl rfl rfl (sto_V (HE.out.get 6 rfl)) ?_
                                        have HE' : Env (putL X4 g13 0 [.int .i64 (((((x : Nat) : Int) + n * ((j : Nat) : Int)) + ((trn g (((x : Nat) : Int) + n * ((j : Nat) : Int)) (((y : Nat) : Int)) T).1)) % (2 * n)), .int .i64 (((((y : Nat) : Int)) + ((trn g (((x : Nat) : Int) + n * ((j : Nat) : Int)) (((y : Nat) : Int)) T).2)) % (2 * n))]) [⟨w.heap.size, 104, [.int .i64 Wd, .int .i64 Ht, .slice (some ad) xs.length k, .int .i64 n, .func (.func 82) #[] #[.pointer (some ⟨b, 0, none⟩)]]⟩, ⟨w.heap.size + 1, 31, [.int .i64 0, .int .i64 0, .int .i64 (((T : Nat) : Int)), .bool g]⟩, ⟨w.heap.size + 1 + 1, 107, [.bool false, .bool false, .bool false]⟩, ⟨g5, 107, [.bool true, .bool false, .bool false]⟩, ⟨g47, 130, [.int .i64 (((x : Nat) : Int)), .int .i64 (((y : Nat) : Int)), .int .i64 (((x : Nat) : Int) + n), .int .i64 (((y : Nat) : Int))]⟩, ⟨g10, 130, [.int .i64 (((x : Nat) : Int) + n * ((j : Nat) : Int)), .int .i64 (((y : Nat) : Int))]⟩, ⟨g13, 130, [.int .i64 (((((x : Nat) : Int) + n * ((j : Nat) : Int)) + ((trn g (((x : Nat) : Int) + n * ((j : Nat) : Int)) (((y : Nat) : Int)) T).1)) % (2 * n)), .int .i64 (((((y : Nat) : Int)) + ((trn g (((x : Nat) : Int) + n * ((j : Nat) : Int)) (((y : Nat) : Int)) T).2)) % (2 * n))]⟩, ⟨g14, 130, [.int .i64 0, .int .i64 0]⟩] := HE.out.putF 6 rfl rfl
                                        have HB' := putL_below (show w.heap.size ≤ g13 from G13.out) [.int .i64 (((((x : Nat) : Int) + n * ((j : Nat) : Int)) + ((trn g (((x : Nat) : Int) + n * ((j : Nat) : Int)) (((y : Nat) : Int)) T).1)) % (2 * n)), .int .i64 (((((y : Nat) : Int)) + ((trn g (((x : Nat) : Int) + n * ((j : Nat) : Int)) (((y : Nat) : Int)) T).2)) % (2 * n))] _ 0 HB.out
                                        replace HM := Hd.mk (HM.out.putB (vs := [.int .i64 (((((x : Nat) : Int) + n * ((j : Nat) : Int)) + ((trn g (((x : Nat) : Int) + n * ((j : Nat) : Int)) (((y : Nat) : Int)) T).1)) % (2 * n)), .int .i64 (((((y : Nat) : Int)) + ((trn g (((x : Nat) : Int) + n * ((j : Nat) : Int)) (((y : Nat) : Int)) T).2)) % (2 * n))]) (o := 0) (HE.out.get 6 rfl))
                                        generalize putL X4 g13 0 [.int .i64 (((((x : Nat) : Int) + n * ((j : Nat) : Int)) + ((trn g (((x : Nat) : Int) + n * ((j : Nat) : Int)) (((y : Nat) : Int)) T).1)) % (2 * n)), .int .i64 (((((y : Nat) : Int)) + ((trn g (((x : Nat) : Int) + n * ((j : Nat) : Int)) (((y : Nat) : Int)) T).2)) % (2 * n))] = X5 at *
                                        replace HE := Hd.mk HE'
                                        replace HB := Hd.mk HB'
                                        clear HE' HB'
                                        refine wpList_st rfl rfl rfl rfl rfl (sto_V (HE.out.get 7 rfl)) ?_
                                        have HE' : Env (putL X5 g14 0 [.int .i64 (((((x : Nat) : Int) + n * ((j : Nat) : Int)) - ((trn g (((x : Nat) : Int) + n * ((j : Nat) : Int)) (((y : Nat) : Int)) T).1)) % (2 * n)), .int .i64 (((((y : Nat) : Int)) - ((trn g (((x : Nat) : Int) + n * ((j : Nat) : Int)) (((y : Nat) : Int)) T).2)) % (2 * n))]) [⟨w.heap.size, 104, [.int .i64 Wd, .int .i64 Ht, .slice (some ad) xs.length k, .int .i64 n, .func (.func 82) #[] #[.pointer (some ⟨b, 0, none⟩)]]⟩, ⟨w.heap.size + 1, 31, [.int .i64 0, .int .i64 0, .int .i64 (((T : Nat) : Int)), .bool g]⟩, ⟨w.heap.size + 1 + 1, 107, [.bool false, .bool false, .bool false]⟩, ⟨g5, 107, [.bool true, .bool false, .bool false]⟩, ⟨g47, 130, [.int .i64 (((x : Nat) : Int)), .int .i64 (((y : Nat) : Int)), .int .i64 (((x : Nat) : Int) + n), .int .i64 (((y : Nat) : Int))]⟩, ⟨g10, 130, [.int .i64 (((x : Nat) : Int) + n * ((j : Nat) : Int)), .int .i64 (((y : Nat) : Int))]⟩, ⟨g13, 130, [.int .i64 (((((x : Nat) : Int) + n * ((j : Nat) : Int)) + ((trn g (((x : Nat) : Int) + n * ((j : Nat) : Int)) (((y : Nat) : Int)) T).1)) % (2 * n)), .int .i64 (((((y : Nat) : Int)) + ((trn g (((x : Nat) : Int) + n * ((j : Nat) : Int)) (((y : Nat) : Int)) T).2)) % (2 * n))]⟩, ⟨g14, 130, [.int .i64 (((((x : Nat) : Int) + n * ((j : Nat) : Int)) - ((trn g (((x : Nat) : Int) + n * ((j : Nat) : Int)) (((y : Nat) : Int)) T).1)) % (2 * n)), .int .i64 (((((y : Nat) : Int)) - ((trn g (((x : Nat) : Int) + n * ((j : Nat) : Int)) (((y : Nat) : Int)) T).2)) % (2 * n))]⟩] := HE.out.putF 7 rfl rfl
                                        have HB' := putL_below (show w.heap.size ≤ g14 from G14.out) [.int .i64 (((((x : Nat) : Int) + n * ((j : Nat) : Int)) - ((trn g (((x : Nat) : Int) + n * ((j : Nat) : Int)) (((y : Nat) : Int)) T).1)) % (2 * n)), .int .i64 (((((y : Nat) : Int)) - ((trn g (((x : Nat) : Int) + n * ((j : Nat) : Int)) (((y : Nat) : Int)) T).2)) % (2 * n))] _ 0 HB.out
                                        replace HM := Hd.mk (HM.out.putB (vs := [.int .i64 (((((x : Nat) : Int) + n * ((j : Nat) : Int)) - ((trn g (((x : Nat) : Int) + n * ((j : Nat) : Int)) (((y : Nat) : Int)) T).1)) % (2 * n)), .int .i64 (((((y : Nat) : Int)) - ((trn g (((x : Nat) : Int) + n * ((j : Nat) : Int)) (((y : Nat) : Int)) T).2)) % (2 * n))]) (o := 0) (HE.out.get 7 rfl))
                                        generalize putL X5 g14 0 [.int .i64 (((((x : Nat) : Int) + n * ((j : Nat) : Int)) - ((trn g (((x : Nat) : Int) + n * ((j : Nat) : Int)) (((y : Nat) : Int)) T).1)) % (2 * n)), .int .i64 (((((y : Nat) : Int)) - ((trn g (((x : Nat) : Int) + n * ((j : Nat) : Int)) (((y : Nat) : Int)) T).2)) % (2 * n))] = X6 at *
                                        replace HE := Hd.mk HE'
                                        replace HB := Hd.mk HB'
                                        clear HE' HB'
                                        obtain ⟨ku, hku⟩ := keyV_of w (uv_small (g := g) (k := T) (x := (((x : Nat) : Int) + n * ((j : Nat) : Int))) (y := ((y : Nat) : Int)) hn1).1
                                        obtain ⟨kv, hkv⟩ := keyV_of w (uv_small (g := g) (k := T) (x := (((x : Nat) : Int) + n * ((j : Nat) : Int))) (y := ((y : Nat) : Int)) hn1).2
                                        have HKU := Hd.mk hku
                                        have HKV := Hd.mk hkv
                                        clear hku hkv
                                        have HWI : Hd (Win n ((x : Nat) : Int) ((y : Nat) : Int) ((j : Nat) : Int)) := ⟨⟨⟨⟨by omega, hx⟩, by omega, hy⟩, by omega⟩⟩
                                        have HSM := Hd.mk (HCV.out.small (by omega) (by omega) (by omega))
                                        cases hf : fnd al (vP g n T (((x : Nat) : Int) + n * ((j : Nat) : Int)) ((y : Nat) : Int)) with
                                        | none =>
                                          have HF := Hd.mk hf
                                          clear hf
                                          go_upto_region 16 with fail
                                          refine wp_region_vd 4 [82, 83, 84, 85] [0, 3] [] 84 [.int .i64 0, .int .i64 0] [isV (.map (some bm)), isV (.agg #[.int .i64 (((((x : Nat) : Int) + n * ((j : Nat) : Int)) - ((trn g (((x : Nat) : Int) + n * ((j : Nat) : Int)) (((y : Nat) : Int)) T).1)) % (2 * n)), .int .i64 (((((y : Nat) : Int)) - ((trn g (((x : Nat) : Int) + n * ((j : Nat) : Int)) (((y : Nat) : Int)) T).2)) % (2 * n))]), isV (.map ((fnd al (vP g n T (((x : Nat) : Int) + n * ((j : Nat) : Int)) ((y : Nat) : Int))).map Ae.b)), isV (.bool true)] (by rfl) alloc_Z ?_ ?_
                                          · intro qi qh qA aa wx hb hs hd
                                            match qi, qh, qA with
                                            | 0, _, _ => exact .inl ⟨rfl, op_mv rfl (hs 6 rfl)⟩
                                            | 1, _, _ => exact .inl ⟨rfl, op_ldV rfl rfl (hs 14 rfl) ((HE.out.to hb).get 7 rfl)⟩
                                            | 2, _, _ => exact .inl ⟨rfl, op_lookMM (v := (vP g n T (((x : Nat) : Int) + n * ((j : Nat) : Int)) ((y : Nat) : Int))) rfl rfl (hd 0 rfl) (hd 1 rfl) (HM.out.to hb) HKV.out⟩
                                            | 3, _, _ => exact .inl ⟨rfl, pure_b (bool_eq (by rw [HF.out]; rfl)) (⟨_, op_eqlNil rfl (hd 2 rfl), rfl⟩)⟩
                                            | qi + 4, h, _ => omega
                                          · intro vs X7 hb hv hal hne
                                            have HL0 := Hd.mk (HE.out.lt)
                                            have HBW := HB
                                            replace HB := Hd.mk (bel_then HB.out hb)
                                            replace HE : Hd (Env X7 [⟨w.heap.size, 104, [.int .i64 Wd, .int .i64 Ht, .slice (some ad) xs.length k, .int .i64 n, .func (.func 82) #[] #[.pointer (some ⟨b, 0, none⟩)]]⟩, ⟨w.heap.size + 1, 31, [.int .i64 0, .int .i64 0, .int .i64 (((T : Nat) : Int)), .bool g]⟩, ⟨w.heap.size + 1 + 1, 107, [.bool false, .bool false, .bool false]⟩, ⟨g5, 107, [.bool true, .bool false, .bool false]⟩, ⟨g47, 130, [.int .i64 (((x : Nat) : Int)), .int .i64 (((y : Nat) : Int)), .int .i64 (((x : Nat) : Int) + n), .int .i64 (((y : Nat) : Int))]⟩, ⟨g10, 130, [.int .i64 (((x : Nat) : Int) + n * ((j : Nat) : Int)), .int .i64 (((y : Nat) : Int))]⟩, ⟨g13, 130, [.int .i64 (((((x : Nat) : Int) + n * ((j : Nat) : Int)) + ((trn g (((x : Nat) : Int) + n * ((j : Nat) : Int)) (((y : Nat) : Int)) T).1)) % (2 * n)), .int .i64 (((((y : Nat) : Int)) + ((trn g (((x : Nat) : Int) + n * ((j : Nat) : Int)) (((y : Nat) : Int)) T).2)) % (2 * n))]⟩, ⟨g14, 130, [.int .i64 (((((x : Nat) : Int) + n * ((j : Nat) : Int)) - ((trn g (((x : Nat) : Int) + n * ((j : Nat) : Int)) (((y : Nat) : Int)) T).1)) % (2 * n)), .int .i64 (((((y : Nat) : Int)) - ((trn g (((x : Nat) : Int) + n * ((j : Nat) : Int)) (((y : Nat) : Int)) T).2)) % (2 * n))]⟩]) := ⟨HE.out.to hb⟩
                                            have HLS := HL0
                                            replace HM := Hd.mk (HM.out.to hb)
                                            have e85 : vs 85 = .bool true := hv 3 (by decide) rfl
                                            simp only [putAll, List.foldl_cons, List.foldl_nil, Act.put, List.setIfInBounds_toArray, List.set_cons_succ, List.set_cons_zero, List.drop_succ_cons, List.drop_zero, e85]
                                            generalize vs 82 = s82
                                            generalize vs 83 = s83
                                            generalize vs 84 = s84
                                            clear hv hal hne hb HL0 HBW HLS e85
                                            have HLT := Hd.mk HM.out.lt
                                            have HLE := Hd.mk (fun e he => (HM.out.inn e he).2.1.lt)
                                            go_upto_region 17 with fail
                                            refine wp_region_vd 3 [86, 87, 88] [0] [] 84 [.int .i64 0, .int .i64 0] [isV (.map (some bm)), isV (.agg #[.int .i64 (((((x : Nat) : Int) + n * ((j : Nat) : Int)) - ((trn g (((x : Nat) : Int) + n * ((j : Nat) : Int)) (((y : Nat) : Int)) T).1)) % (2 * n)), .int .i64 (((((y : Nat) : Int)) - ((trn g (((x : Nat) : Int) + n * ((j : Nat) : Int)) (((y : Nat) : Int)) T).2)) % (2 * n))]), isMV X7.heap.size] (by rfl) alloc_Z ?_ ?_
                                            · intro qi qh qA aa wx hb hs hd
                                              match qi, qh, qA with
                                              | 0, _, _ => exact .inl ⟨rfl, op_mv rfl (hs 6 rfl)⟩
                                              | 1, _, _ => exact .inl ⟨rfl, op_ldV rfl rfl (hs 14 rfl) ((HE.out.to hb).get 7 rfl)⟩
                                              | 2, _, _ => exact .inl ⟨rfl, op_mkMV rfl rfl _ hb.size⟩
                                              | qi + 3, h, _ => omega
                                            · intro vs X8 hb hv hal hne
                                              have HL0 := Hd.mk (HE.out.lt)
                                              have HBW := HB
                                              replace HB := Hd.mk (bel_then HB.out hb)
                                              replace HE : Hd (Env X8 [⟨w.heap.size, 104, [.int .i64 Wd, .int .i64 Ht, .slice (some ad) xs.length k, .int .i64 n, .func (.func 82) #[] #[.pointer (some ⟨b, 0, none⟩)]]⟩, ⟨w.heap.size + 1, 31, [.int .i64 0, .int .i64 0, .int .i64 (((T : Nat) : Int)), .bool g]⟩, ⟨w.heap.size + 1 + 1, 107, [.bool false, .bool false, .bool false]⟩, ⟨g5, 107, [.bool true, .bool false, .bool false]⟩, ⟨g47, 130, [.int .i64 (((x : Nat) : Int)), .int .i64 (((y : Nat) : Int)), .int .i64 (((x : Nat) : Int) + n), .int .i64 (((y : Nat) : Int))]⟩, ⟨g10, 130, [.int .i64 (((x : Nat) : Int) + n * ((j : Nat) : Int)), .int .i64 (((y : Nat) : Int))]⟩, ⟨g13, 130, [.int .i64 (((((x : Nat) : Int) + n * ((j : Nat) : Int)) + ((trn g (((x : Nat) : Int) + n * ((j : Nat) : Int)) (((y : Nat) : Int)) T).1)) % (2 * n)), .int .i64 (((((y : Nat) : Int)) + ((trn g (((x : Nat) : Int) + n * ((j : Nat) : Int)) (((y : Nat) : Int)) T).2)) % (2 * n))]⟩, ⟨g14, 130, [.int .i64 (((((x : Nat) : Int) + n * ((j : Nat) : Int)) - ((trn g (((x : Nat) : Int) + n * ((j : Nat) : Int)) (((y : Nat) : Int)) T).1)) % (2 * n)), .int .i64 (((((y : Nat) : Int)) - ((trn g (((x : Nat) : Int) + n * ((j : Nat) : Int)) (((y : Nat) : Int)) T).2)) % (2 * n))]⟩]) := ⟨HE.out.to hb⟩
                                              have HLS := HL0
                                              replace HM := Hd.mk (HM.out.to hb)
                                              have e86 : vs 86 = .map (some bm) := hv 0 (by decide) rfl
                                              have e87 : vs 87 = .agg #[.int .i64 (((((x : Nat) : Int) + n * ((j : Nat) : Int)) - ((trn g (((x : Nat) : Int) + n * ((j : Nat) : Int)) (((y : Nat) : Int)) T).1)) % (2 * n)), .int .i64 (((((y : Nat) : Int)) - ((trn g (((x : Nat) : Int) + n * ((j : Nat) : Int)) (((y : Nat) : Int)) T).2)) % (2 * n))] := hv 1 (by decide) rfl
                                              obtain ⟨bi, e88, lbi, hmi⟩ : ∃ b, vs 88 = .map (some b) ∧ X7.heap.size ≤ b ∧ MapV X8 b [] := hv 2 (by decide) rfl
                                              have HMI := Hd.mk hmi
                                              have HLB := Hd.mk lbi
                                              have HWB := Hd.mk HBW.out.size
                                              clear hmi lbi
                                              simp only [putAll, List.foldl_cons, List.foldl_nil, Act.put, List.setIfInBounds_toArray, List.set_cons_succ, List.set_cons_zero, List.drop_succ_cons, List.drop_zero, e86, e87, e88]
                                              clear hv hal hne hb HL0 HBW HLS e86 e87 e88
                                              have HNB : Hd (bi ≠ bm ∧ ∀ e ∈ al, e.b ≠ bi) := ⟨Nat.ne_of_gt (Nat.lt_of_lt_of_le HLT.out HLB.out), fun e he => Nat.ne_of_lt (Nat.lt_of_lt_of_le (HLE.out e he) HLB.out)⟩
                                              refine wpList_stMM (v := (vP g n T (((x : Nat) : Int) + n * ((j : Nat) : Int)) ((y : Nat) : Int))) (b := bi) rfl rfl rfl rfl rfl rfl HM.out HKV.out HF.out HMI.out (Nat.le_trans HWB.out HLB.out) HNB.out.1 HNB.out.2 HSM.out.1 ?_
                                              intro wm hm1 hg1
                                              have HE1 := Env.grownM HE.out hg1 HM.out.isM
                                              have HB1 := HB.out.grown hg1 HB.out.size (fun z hz => by cases hz; exact HM.out.hlo)
                                              replace HE := Hd.mk HE1
                                              replace HB := Hd.mk HB1
                                              replace HM := Hd.mk hm1
                                              clear HE1 HB1 hm1 hg1 HLT HLE HLB HWB HMI HNB
                                              go_upto_region 18 with fail
                                              refine wp_region_vs 4 [89, 90, 91, 92] [0] [] 84 [.int .i64 0, .int .i64 0] [isV (.map (some bm)), isV (.agg #[.int .i64 (((((x : Nat) : Int) + n * ((j : Nat) : Int)) - ((trn g (((x : Nat) : Int) + n * ((j : Nat) : Int)) (((y : Nat) : Int)) T).1)) % (2 * n)), .int .i64 (((((y : Nat) : Int)) - ((trn g (((x : Nat) : Int) + n * ((j : Nat) : Int)) (((y : Nat) : Int)) T).2)) % (2 * n))]), isV (.map (some ((⟨(vP g n T (((x : Nat) : Int) + n * ((j : Nat) : Int)) ((y : Nat) : Int)), bi, []⟩ : Ae)).b)), isV (.agg #[.int .i64 (((((x : Nat) : Int) + n * ((j : Nat) : Int)) + ((trn g (((x : Nat) : Int) + n * ((j : Nat) : Int)) (((y : Nat) : Int)) T).1)) % (2 * n)), .int .i64 (((((y : Nat) : Int)) + ((trn g (((x : Nat) : Int) + n * ((j : Nat) : Int)) (((y : Nat) : Int)) T).2)) % (2 * n))])] (by kernel_rfl) (by kernel_rfl) (by kernel_rfl) (by rfl) alloc_Z (fun d v c a w h => by cases d <;> exact h) ?_ ?_
                                              · intro qi qh qA aa wx hb hs hd
                                                match qi, qh, qA with
                                                | 0, _, _ => exact op_mv rfl (hs 6 rfl)
                                                | 1, _, _ => exact op_ldV rfl rfl (hs 14 rfl) ((HE.out.to hb).get 7 rfl)
                                                | 2, _, _ => exact wp_b (show Value.map ((fnd (al ++ [⟨(vP g n T (((x : Nat) : Int) + n * ((j : Nat) : Int)) ((y : Nat) : Int)), bi, []⟩]) (vP g n T (((x : Nat) : Int) + n * ((j : Nat) : Int)) ((y : Nat) : Int))).map Ae.b) = .map (some ((⟨(vP g n T (((x : Nat) : Int) + n * ((j : Nat) : Int)) ((y : Nat) : Int)), bi, []⟩ : Ae)).b) from by rw [fnd_new HF.out]; rfl) (op_lookMM (v := (vP g n T (((x : Nat) : Int) + n * ((j : Nat) : Int)) ((y : Nat) : Int))) rfl rfl (hd 0 rfl) (hd 1 rfl) (HM.out.to hb) HKV.out)
                                                | 3, _, _ => exact op_ldV rfl rfl (hs 13 rfl) ((HE.out.to hb).get 6 rfl)
                                                | qi + 4, h, _ => omega
                                              · intro vs X9 hb hv hal hne
                                                have HL0 := Hd.mk (HE.out.lt)
                                                have HBW := HB
                                                replace HB := Hd.mk (bel_then HB.out hb)
                                                replace HE : Hd (Env X9 [⟨w.heap.size, 104, [.int .i64 Wd, .int .i64 Ht, .slice (some ad) xs.length k, .int .i64 n, .func (.func 82) #[] #[.pointer (some ⟨b, 0, none⟩)]]⟩, ⟨w.heap.size + 1, 31, [.int .i64 0, .int .i64 0, .int .i64 (((T : Nat) : Int)), .bool g]⟩, ⟨w.heap.size + 1 + 1, 107, [.bool false, .bool false, .bool false]⟩, ⟨g5, 107, [.bool true, .bool false, .bool false]⟩, ⟨g47, 130, [.int .i64 (((x : Nat) : Int)), .int .i64 (((y : Nat) : Int)), .int .i64 (((x : Nat) : Int) + n), .int .i64 (((y : Nat) : Int))]⟩, ⟨g10, 130, [.int .i64 (((x : Nat) : Int) + n * ((j : Nat) : Int)), .int .i64 (((y : Nat) : Int))]⟩, ⟨g13, 130, [.int .i64 (((((x : Nat) : Int) + n * ((j : Nat) : Int)) + ((trn g (((x : Nat) : Int) + n * ((j : Nat) : Int)) (((y : Nat) : Int)) T).1)) % (2 * n)), .int .i64 (((((y : Nat) : Int)) + ((trn g (((x : Nat) : Int) + n * ((j : Nat) : Int)) (((y : Nat) : Int)) T).2)) % (2 * n))]⟩, ⟨g14, 130, [.int .i64 (((((x : Nat) : Int) + n * ((j : Nat) : Int)) - ((trn g (((x : Nat) : Int) + n * ((j : Nat) : Int)) (((y : Nat) : Int)) T).1)) % (2 * n)), .int .i64 (((((y : Nat) : Int)) - ((trn g (((x : Nat) : Int) + n * ((j : Nat) : Int)) (((y : Nat) : Int)) T).2)) % (2 * n))]⟩]) := ⟨HE.out.to hb⟩
                                                have HLS := HL0
                                                replace HM := Hd.mk (HM.out.to hb)
                                                have e91 : vs 91 = .map (some ((⟨(vP g n T (((x : Nat) : Int) + n * ((j : Nat) : Int)) ((y : Nat) : Int)), bi, []⟩ : Ae)).b) := hv 2 (by decide) rfl
                                                have e92 : vs 92 = .agg #[.int .i64 (((((x : Nat) : Int) + n * ((j : Nat) : Int)) + ((trn g (((x : Nat) : Int) + n * ((j : Nat) : Int)) (((y : Nat) : Int)) T).1)) % (2 * n)), .int .i64 (((((y : Nat) : Int)) + ((trn g (((x : Nat) : Int) + n * ((j : Nat) : Int)) (((y : Nat) : Int)) T).2)) % (2 * n))] := hv 3 (by decide) rfl
                                                simp only [putAll, List.foldl_cons, List.foldl_nil, Act.put, List.setIfInBounds_toArray, List.set_cons_succ, List.set_cons_zero, List.drop_succ_cons, List.drop_zero, e91, e92]
                                                generalize vs 89 = s89
                                                generalize vs 90 = s90
                                                clear hv hal hne hb HL0 HBW HLS e91 e92
                                                refine wpList_stV (u := (uP g n T (((x : Nat) : Int) + n * ((j : Nat) : Int)) ((y : Nat) : Int))) (e := (⟨(vP g n T (((x : Nat) : Int) + n * ((j : Nat) : Int)) ((y : Nat) : Int)), bi, []⟩ : Ae)) rfl rfl rfl rfl rfl HM.out (List.mem_append_right _ (List.mem_singleton.2 rfl)) HKU.out (by unfold maxLen; simp) ?_
                                                intro wm hm1 hg1
                                                have HE1 := Env.grownM HE.out hg1 (HM.out.inn _ (List.mem_append_right _ (List.mem_singleton.2 rfl))).2.1.isM
                                                have HB1 := HB.out.grown hg1 HB.out.size (fun z hz => by cases hz; exact (HM.out.inn _ (List.mem_append_right _ (List.mem_singleton.2 rfl))).2.2.1)
                                                replace HE := Hd.mk HE1
                                                replace HB := Hd.mk HB1
                                                replace HM := Hd.mk hm1
                                                clear HE1 HB1 hm1 hg1
                                                go_wp2_with fail
                                                go_roundw
                                                case rel => exact ⟨j + 1, _, by omega, by go_num, ⟨Env.front (L := [⟨w.heap.size, 104, [.int .i64 Wd, .int .i64 Ht, .slice (some ad) xs.length k, .int .i64 n, .func (.func 82) #[] #[.pointer (some ⟨b, 0, none⟩)]]⟩, ⟨w.heap.size + 1, 31, [.int .i64 0, .int .i64 0, .int .i64 (((T : Nat) : Int)), .bool g]⟩, ⟨w.heap.size + 1 + 1, 107, [.bool false, .bool false, .bool false]⟩, ⟨g5, 107, [.bool true, .bool false, .bool false]⟩, ⟨g47, 130, [.int .i64 (((x : Nat) : Int)), .int .i64 (((y : Nat) : Int)), .int .i64 (((x : Nat) : Int) + n), .int .i64 (((y : Nat) : Int))]⟩]) HE.out, HM.out, HB.out⟩, HCV.out.add2 HSY.out HWI.out bi HF.out⟩
                                                case measure => simp [intOf]; omega
                                        | some e0 =>
                                          have HF := Hd.mk hf
                                          have HE0 := Hd.mk (fnd_some hf)
                                          clear hf
                                          go_upto_region 16 with fail
                                          refine wp_region_vd 4 [82, 83, 84, 85] [0, 3] [] 84 [.int .i64 0, .int .i64 0] [isV (.map (some bm)), isV (.agg #[.int .i64 (((((x : Nat) : Int) + n * ((j : Nat) : Int)) - ((trn g (((x : Nat) : Int) + n * ((j : Nat) : Int)) (((y : Nat) : Int)) T).1)) % (2 * n)), .int .i64 (((((y : Nat) : Int)) - ((trn g (((x : Nat) : Int) + n * ((j : Nat) : Int)) (((y : Nat) : Int)) T).2)) % (2 * n))]), isV (.map ((fnd al (vP g n T (((x : Nat) : Int) + n * ((j : Nat) : Int)) ((y : Nat) : Int))).map Ae.b)), isV (.bool false)] (by rfl) alloc_Z ?_ ?_
                                          · intro qi qh qA aa wx hb hs hd
                                            match qi, qh, qA with
                                            | 0, _, _ => exact .inl ⟨rfl, op_mv rfl (hs 6 rfl)⟩
                                            | 1, _, _ => exact .inl ⟨rfl, op_ldV rfl rfl (hs 14 rfl) ((HE.out.to hb).get 7 rfl)⟩
                                            | 2, _, _ => exact .inl ⟨rfl, op_lookMM (v := (vP g n T (((x : Nat) : Int) + n * ((j : Nat) : Int)) ((y : Nat) : Int))) rfl rfl (hd 0 rfl) (hd 1 rfl) (HM.out.to hb) HKV.out⟩
                                            | 3, _, _ => exact .inl ⟨rfl, pure_b (bool_eq (by rw [HF.out]; rfl)) (⟨_, op_eqlNil rfl (hd 2 rfl), rfl⟩)⟩
                                            | qi + 4, h, _ => omega
                                          · intro vs X7 hb hv hal hne
                                            have HL0 := Hd.mk (HE.out.lt)
                                            have HBW := HB
                                            replace HB := Hd.mk (bel_then HB.out hb)
                                            replace HE : Hd (Env X7 [⟨w.heap.size, 104, [.int .i64 Wd, .int .i64 Ht, .slice (some ad) xs.length k, .int .i64 n, .func (.func 82) #[] #[.pointer (some ⟨b, 0, none⟩)]]⟩, ⟨w.heap.size + 1, 31, [.int .i64 0, .int .i64 0, .int .i64 (((T : Nat) : Int)), .bool g]⟩, ⟨w.heap.size + 1 + 1, 107, [.bool false, .bool false, .bool false]⟩, ⟨g5, 107, [.bool true, .bool false, .bool false]⟩, ⟨g47, 130, [.int .i64 (((x : Nat) : Int)), .int .i64 (((y : Nat) : Int)), .int .i64 (((x : Nat) : Int) + n), .int .i64 (((y : Nat) : Int))]⟩, ⟨g10, 130, [.int .i64 (((x : Nat) : Int) + n * ((j : Nat) : Int)), .int .i64 (((y : Nat) : Int))]⟩, ⟨g13, 130, [.int .i64 (((((x : Nat) : Int) + n * ((j : Nat) : Int)) + ((trn g (((x : Nat) : Int) + n * ((j : Nat) : Int)) (((y : Nat) : Int)) T).1)) % (2 * n)), .int .i64 (((((y : Nat) : Int)) + ((trn g (((x : Nat) : Int) + n * ((j : Nat) : Int)) (((y : Nat) : Int)) T).2)) % (2 * n))]⟩, ⟨g14, 130, [.int .i64 (((((x : Nat) : Int) + n * ((j : Nat) : Int)) - ((trn g (((x : Nat) : Int) + n * ((j : Nat) : Int)) (((y : Nat) : Int)) T).1)) % (2 * n)), .int .i64 (((((y : Nat) : Int)) - ((trn g (((x : Nat) : Int) + n * ((j : Nat) : Int)) (((y : Nat) : Int)) T).2)) % (2 * n))]⟩]) := ⟨HE.out.to hb⟩
                                            have HLS := HL0
                                            replace HM := Hd.mk (HM.out.to hb)
                                            have e85 : vs 85 = .bool false := hv 3 (by decide) rfl
                                            simp only [putAll, List.foldl_cons, List.foldl_nil, Act.put, List.setIfInBounds_toArray, List.set_cons_succ, List.set_cons_zero, List.drop_succ_cons, List.drop_zero, e85]
                                            generalize vs 82 = s82
                                            generalize vs 83 = s83
                                            generalize vs 84 = s84
                                            clear hv hal hne hb HL0 HBW HLS e85
                                            go_upto_region 18 with fail
                                            refine wp_region_vs 4 [89, 90, 91, 92] [0] [] 84 [.int .i64 0, .int .i64 0] [isV (.map (some bm)), isV (.agg #[.int .i64 (((((x : Nat) : Int) + n * ((j : Nat) : Int)) - ((trn g (((x : Nat) : Int) + n * ((j : Nat) : Int)) (((y : Nat) : Int)) T).1)) % (2 * n)), .int .i64 (((((y : Nat) : Int)) - ((trn g (((x : Nat) : Int) + n * ((j : Nat) : Int)) (((y : Nat) : Int)) T).2)) % (2 * n))]), isV (.map (some (e0).b)), isV (.agg #[.int .i64 (((((x : Nat) : Int) + n * ((j : Nat) : Int)) + ((trn g (((x : Nat) : Int) + n * ((j : Nat) : Int)) (((y : Nat) : Int)) T).1)) % (2 * n)), .int .i64 (((((y : Nat) : Int)) + ((trn g (((x : Nat) : Int) + n * ((j : Nat) : Int)) (((y : Nat) : Int)) T).2)) % (2 * n))])] (by kernel_rfl) (by kernel_rfl) (by kernel_rfl) (by rfl) alloc_Z (fun d v c a w h => by cases d <;> exact h) ?_ ?_
                                            · intro qi qh qA aa wx hb hs hd
                                              match qi, qh, qA with
                                              | 0, _, _ => exact op_mv rfl (hs 6 rfl)
                                              | 1, _, _ => exact op_ldV rfl rfl (hs 14 rfl) ((HE.out.to hb).get 7 rfl)
                                              | 2, _, _ => exact wp_b (show Value.map ((fnd al (vP g n T (((x : Nat) : Int) + n * ((j : Nat) : Int)) ((y : Nat) : Int))).map Ae.b) = .map (some (e0).b) from by rw [HF.out]; rfl) (op_lookMM (v := (vP g n T (((x : Nat) : Int) + n * ((j : Nat) : Int)) ((y : Nat) : Int))) rfl rfl (hd 0 rfl) (hd 1 rfl) (HM.out.to hb) HKV.out)
                                              | 3, _, _ => exact op_ldV rfl rfl (hs 13 rfl) ((HE.out.to hb).get 6 rfl)
                                              | qi + 4, h, _ => omega
                                            · intro vs X8 hb hv hal hne
                                              have HL0 := Hd.mk (HE.out.lt)
                                              have HBW := HB
                                              replace HB := Hd.mk (bel_then HB.out hb)
                                              replace HE : Hd (Env X8 [⟨w.heap.size, 104, [.int .i64 Wd, .int .i64 Ht, .slice (some ad) xs.length k, .int .i64 n, .func (.func 82) #[] #[.pointer (some ⟨b, 0, none⟩)]]⟩, ⟨w.heap.size + 1, 31, [.int .i64 0, .int .i64 0, .int .i64 (((T : Nat) : Int)), .bool g]⟩, ⟨w.heap.size + 1 + 1, 107, [.bool false, .bool false, .bool false]⟩, ⟨g5, 107, [.bool true, .bool false, .bool false]⟩, ⟨g47, 130, [.int .i64 (((x : Nat) : Int)), .int .i64 (((y : Nat) : Int)), .int .i64 (((x : Nat) : Int) + n), .int .i64 (((y : Nat) : Int))]⟩, ⟨g10, 130, [.int .i64 (((x : Nat) : Int) + n * ((j : Nat) : Int)), .int .i64 (((y : Nat) : Int))]⟩, ⟨g13, 130, [.int .i64 (((((x : Nat) : Int) + n * ((j : Nat) : Int)) + ((trn g (((x : Nat) : Int) + n * ((j : Nat) : Int)) (((y : Nat) : Int)) T).1)) % (2 * n)), .int .i64 (((((y : Nat) : Int)) + ((trn g (((x : Nat) : Int) + n * ((j : Nat) : Int)) (((y : Nat) : Int)) T).2)) % (2 * n))]⟩, ⟨g14, 130, [.int .i64 (((((x : Nat) : Int) + n * ((j : Nat) : Int)) - ((trn g (((x : Nat) : Int) + n * ((j : Nat) : Int)) (((y : Nat) : Int)) T).1)) % (2 * n)), .int .i64 (((((y : Nat) : Int)) - ((trn g (((x : Nat) : Int) + n * ((j : Nat) : Int)) (((y : Nat) : Int)) T).2)) % (2 * n))]⟩]) := ⟨HE.out.to hb⟩
                                              have HLS := HL0
                                              replace HM := Hd.mk (HM.out.to hb)
                                              have e91 : vs 91 = .map (some (e0).b) := hv 2 (by decide) rfl
                                              have e92 : vs 92 = .agg #[.int .i64 (((((x : Nat) : Int) + n * ((j : Nat) : Int)) + ((trn g (((x : Nat) : Int) + n * ((j : Nat) : Int)) (((y : Nat) : Int)) T).1)) % (2 * n)), .int .i64 (((((y : Nat) : Int)) + ((trn g (((x : Nat) : Int) + n * ((j : Nat) : Int)) (((y : Nat) : Int)) T).2)) % (2 * n))] := hv 3 (by decide) rfl
                                              simp only [putAll, List.foldl_cons, List.foldl_nil, Act.put, List.setIfInBounds_toArray, List.set_cons_succ, List.set_cons_zero, List.drop_succ_cons, List.drop_zero, e91, e92]
                                              generalize vs 89 = s89
                                              generalize vs 90 = s90
                                              clear hv hal hne hb HL0 HBW HLS e91 e92
                                              refine wpList_stV (u := (uP g n T (((x : Nat) : Int) + n * ((j : Nat) : Int)) ((y : Nat) : Int))) (e := e0) rfl rfl rfl rfl rfl HM.out HE0.out.1 HKU.out (HSM.out.2 _ HE0.out.1) ?_
                                              intro wm hm1 hg1
                                              have HE1 := Env.grownM HE.out hg1 (HM.out.inn _ HE0.out.1).2.1.isM
                                              have HB1 := HB.out.grown hg1 HB.out.size (fun z hz => by cases hz; exact (HM.out.inn _ HE0.out.1).2.2.1)
                                              replace HE := Hd.mk HE1
                                              replace HB := Hd.mk HB1
                                              replace HM := Hd.mk hm1
                                              clear HE1 HB1 hm1 hg1
                                              go_wp2_with fail
                                              go_roundw
                                              case rel => exact ⟨j + 1, _, by omega, by go_num, ⟨Env.front (L := [⟨w.heap.size, 104, [.int .i64 Wd, .int .i64 Ht, .slice (some ad) xs.length k, .int .i64 n, .func (.func 82) #[] #[.pointer (some ⟨b, 0, none⟩)]]⟩, ⟨w.heap.size + 1, 31, [.int .i64 0, .int .i64 0, .int .i64 (((T : Nat) : Int)), .bool g]⟩, ⟨w.heap.size + 1 + 1, 107, [.bool false, .bool false, .bool false]⟩, ⟨g5, 107, [.bool true, .bool false, .bool false]⟩, ⟨g47, 130, [.int .i64 (((x : Nat) : Int)), .int .i64 (((y : Nat) : Int)), .int .i64 (((x : Nat) : Int) + n), .int .i64 (((y : Nat) : Int))]⟩]) HE.out, HM.out, HB.out⟩, by rw [HE0.out.2]; exact HCV.out.add1 HSY.out HWI.out HE0.out.1 HE0.out.2⟩
                                              case measure => simp [intOf]; omega
                                · have HCV1 : Hd (Cov (colF Wd Ht xs) g T n al x y 2) := ⟨by rw [← show j = 2 by omega]; exact HCV.out⟩
                                  go_wp2_with fail
                                  go_roundw
                                  case rel => exact ⟨y + 1, _, _, by omega, by go_num, ⟨Env.front (L := [⟨w.heap.size, 104, [.int .i64 Wd, .int .i64 Ht, .slice (some ad) xs.length k, .int .i64 n, .func (.func 82) #[] #[.pointer (some ⟨b, 0, none⟩)]]⟩, ⟨w.heap.size + 1, 31, [.int .i64 0, .int .i64 0, .int .i64 (((T : Nat) : Int)), .bool g]⟩, ⟨w.heap.size + 1 + 1, 107, [.bool false, .bool false, .bool false]⟩, ⟨g5, 107, [.bool true, .bool false, .bool false]⟩]) HE.out, HM.out, HB.out⟩, HCV1.out.next, HEM1.out⟩
                                  case measure => simp [intOf]; omega
                      · have HSY := Hd.mk hsy
                        clear hsy
                        go_upto_region 9 with fail
                        refine wp_region_vd 7 [30, 31, 32, 33, 34, 35, 36] [2, 3, 4, 6] [] 84 [.int .i64 0, .int .i64 0] [isV (.agg #[.int .i64 Wd, .int .i64 Ht, .slice (some ad) xs.length k, .int .i64 n, .func (.func 82) #[] #[.pointer (some ⟨b, 0, none⟩)]]), isV (.agg #[.int .i64 0, .int .i64 0, .int .i64 (((T : Nat) : Int)), .bool g]), isV (.int .i64 (((x : Nat) : Int))), isV (.int .i64 (((y : Nat) : Int))), isV (.agg #[.int .i64 (((x : Nat) : Int)), .int .i64 (((y : Nat) : Int))]), isV (.bool false), isV (.bool true)] (by rfl) alloc_Z ?_ ?_
                        · intro qi qh qA aa wx hb hs hd
                          match qi, qh, qA with
                          | 0, _, _ => exact .inl ⟨rfl, op_ldP rfl rfl (hs 2 rfl) ((HE.out.to hb).get 0 rfl)⟩
                          | 1, _, _ => exact .inl ⟨rfl, op_ldM rfl rfl (hs 3 rfl) ((HE.out.to hb).get 1 rfl)⟩
                          | 2, _, _ => exact .inl ⟨rfl, op_mv rfl (hs 7 rfl)⟩
                          | 3, _, _ => exact .inl ⟨rfl, op_mv rfl (hs 8 rfl)⟩
                          | 4, _, _ => exact .inl ⟨rfl, ⟨_, op_buV rfl (hd 2 rfl) (hd 3 rfl), rfl⟩⟩
                          | 5, _, _ => exact .inl ⟨rfl, wp_b (bool_eq (bP_false.2 HSY.out)) (op_call3 rfl rfl Try.call83 (by rw [(show aa.eval (.tmp 30) = .agg #[.int .i64 Wd, .int .i64 Ht, .slice (some ad) xs.length k, .int .i64 n, .func (.func 82) #[] #[.pointer (some ⟨b, 0, none⟩)]] from (hd 0 rfl)), (show aa.eval (.tmp 31) = .agg #[.int .i64 0, .int .i64 0, .int .i64 (((T : Nat) : Int)), .bool g] from (hd 1 rfl)), (show aa.eval (.tmp 34) = .agg #[.int .i64 (((x : Nat) : Int)), .int .i64 (((y : Nat) : Int))] from (hd 4 rfl))]; exact keeps_got Wd Ht ad k xs b n g T (((x : Nat) : Int)) (((y : Nat) : Int)) HW.out HH.out (by omega) (by omega) _ (HRI.out.to (bel_then HB.out hb)) HL.out (HBK.out.to (bel_then HB.out hb)) hn1 HPER.out HT4.out))⟩
                          | 6, _, _ => exact .inl ⟨rfl, ⟨_, op_not rfl (hd 5 rfl), rfl⟩⟩
                          | qi + 7, h, _ => omega
                        · intro vs X2 hb hv hal hne
                          have HL0 := Hd.mk (HE.out.lt)
                          have HBW := HB
                          replace HB := Hd.mk (bel_then HB.out hb)
                          replace HE : Hd (Env X2 [⟨w.heap.size, 104, [.int .i64 Wd, .int .i64 Ht, .slice (some ad) xs.length k, .int .i64 n, .func (.func 82) #[] #[.pointer (some ⟨b, 0, none⟩)]]⟩, ⟨w.heap.size + 1, 31, [.int .i64 0, .int .i64 0, .int .i64 (((T : Nat) : Int)), .bool g]⟩, ⟨w.heap.size + 1 + 1, 107, [.bool false, .bool false, .bool false]⟩, ⟨g5, 107, [.bool s, .bool false, .bool false]⟩]) := ⟨HE.out.to hb⟩
                          have HLS := HL0
                          replace HM := Hd.mk (HM.out.to hb)
                          have e36 : vs 36 = .bool true := hv 6 (by decide) rfl
                          simp only [putAll, List.foldl_cons, List.foldl_nil, Act.put, List.setIfInBounds_toArray, List.set_cons_succ, List.set_cons_zero, List.drop_succ_cons, List.drop_zero, e36]
                          generalize vs 30 = s30
                          generalize vs 31 = s31
                          generalize vs 32 = s32
                          generalize vs 33 = s33
                          generalize vs 34 = s34
                          generalize vs 35 = s35
                          clear hv hal hne hb HL0 HBW HLS e36
                          go_wp2_with fail
                          go_roundw
                          case rel => exact ⟨y + 1, _, _, by omega, by go_num, ⟨HE.out, HM.out, HB.out⟩, HCV.out.skip HSY.out, some_no HEM.out hy HSY.out⟩
                          case measure => simp [intOf]; omega
                  · skip
                    go_wp2_with fail
                    go_roundw
                    case rel => exact ⟨x + 1, _, _, by omega, by go_num, ⟨HE.out, HM.out, HB.out⟩, HCV.out.row (by omega) (by omega) (by omega), HEM.out.row (by omega)⟩
                    case measure => simp [intOf]; omega
          · have HSO := Hd.mk (some_all HEM.out (by omega) (show 0 < n by omega) HPER.out)
            have HCM := Hd.mk (HCV.out.mir (by omega))
            have HCC := Hd.mk (HCV.out.cen (by omega) HM.out.ap)
            clear HEM HCV
            go_upto_region 22 with fail
            obtain ⟨DA, nA, hoA⟩ := HM.out.out
            have HOA := Hd.mk hoA
            clear hoA
            go_wp2_with (first | (at_range; refine wpList_range_own _ rfl _ 127 rfl 130 133 keyedV Try.underlying127 RB bm nA DA rfl HOA.out.1 ?_; intro wA hrg0 hg0 hs0) | fail)
            try go_frame
            have HB1 := HB.out.grown hg0 HB.out.size (fun z hz => by cases hz)
            have HE1 := Env.to HE.out ((Below.refl _ _).grown hg0 (Nat.le_refl _) (fun z hz => by cases hz))
            have HM1 : RgM wA w.heap.size bm al wr.heap.size DA nA (Maps.has DA) (Maps.size DA) := ⟨HM.out.grownN hg0, ⟨hrg0.owns, HOA.out.2⟩, hrg0, HB.out.size⟩
            have HMT0 := RMet.start (Q := fun e => (0, 0) ∈ e.us) HM.out HOA.out
            generalize wr.heap.size = rA at *
            clear hrg0 hg0 hs0 HB HE HM
            go_loopw [98] (fun _ wr => ∃ (left : Lit → Bool) (cnt : Nat) (m : Bool), (Env wr [⟨w.heap.size, 104, [.int .i64 Wd, .int .i64 Ht, .slice (some ad) xs.length k, .int .i64 n, .func (.func 82) #[] #[.pointer (some ⟨b, 0, none⟩)]]⟩, ⟨w.heap.size + 1, 31, [.int .i64 0, .int .i64 0, .int .i64 (((T : Nat) : Int)), .bool g]⟩, ⟨w.heap.size + 1 + 1, 107, [.bool false, .bool false, .bool false]⟩, ⟨g5, 107, [.bool s, .bool m, .bool false]⟩] ∧ RgM wr w.heap.size bm al rA DA nA left cnt ∧ Below w.heap.size w wr) ∧ RMet al (fun e => (0, 0) ∈ e.us) left m) (fun _ wr => wr.rangeLeft bm rA)
            case atStart => exact ⟨_, _, _, ⟨HE1, HM1, HB1⟩, HMT0⟩
            case round =>
              clear HE1 HM1 HB1 HMT0
              obtain ⟨left, cnt, m, ⟨he, hmm, hb⟩, hmt⟩ := hrel
              have HB := Hd.mk hb
              have HE : Hd (Env wr [⟨w.heap.size, 104, [.int .i64 Wd, .int .i64 Ht, .slice (some ad) xs.length k, .int .i64 n, .func (.func 82) #[] #[.pointer (some ⟨b, 0, none⟩)]]⟩, ⟨w.heap.size + 1, 31, [.int .i64 0, .int .i64 0, .int .i64 (((T : Nat) : Int)), .bool g]⟩, ⟨w.heap.size + 1 + 1, 107, [.bool false, .bool false, .bool false]⟩, ⟨g5, 107, [.bool s, .bool m, .bool false]⟩]) := ⟨he⟩
              have HM := Hd.mk hmm
              have HMT := Hd.mk hmt
              clear he hmm hb hmt
              go_wp2_with (first | (at_next; refine wpList_next_ranges _ rfl _ rfl _ keyedV RB (fun v : Value => v) (fun c : Option Nat => .map c) (fun key kl h => ⟨key, rfl⟩) (fun v y h => let ⟨c, h1, _⟩ := RB_inv h; ⟨c, h1⟩) bm rA nA DA left cnt rfl HM.out.rg ?_ ?_) | fail)
              · intro _ hl0
                have HM2 := HM.out.mm
                have HMI := Hd.mk (HMT.out.done HM2 hl0)
                replace HM := Hd.mk HM2
                clear HM2 HMT hl0
                go_upto_region 26 with fail
                obtain ⟨DB, nB, hoB⟩ := HM.out.out
                have HOB := Hd.mk hoB
                clear hoB
                go_wp2_with (first | (at_range; refine wpList_range_own _ rfl _ 127 rfl 130 133 keyedV Try.underlying127 RB bm nB DB rfl HOB.out.1 ?_; intro wB hrg0 hg0 hs0) | fail)
                try go_frame
                have HB1 := HB.out.grown hg0 HB.out.size (fun z hz => by cases hz)
                have HE1 := Env.to HE.out ((Below.refl _ _).grown hg0 (Nat.le_refl _) (fun z hz => by cases hz))
                have HM1 : RgM wB w.heap.size bm al wr.heap.size DB nB (Maps.has DB) (Maps.size DB) := ⟨HM.out.grownN hg0, ⟨hrg0.owns, HOB.out.2⟩, hrg0, HB.out.size⟩
                have HMT0 := RMet.start (Q := fun e => m = true ∧ ¬ (0, 0) ∈ e.us) HM.out HOB.out
                generalize wr.heap.size = rB at *
                clear hrg0 hg0 hs0 HB HE HM
                go_loopw [112] (fun _ wr => ∃ (left : Lit → Bool) (cnt : Nat) (c : Bool), (Env wr [⟨w.heap.size, 104, [.int .i64 Wd, .int .i64 Ht, .slice (some ad) xs.length k, .int .i64 n, .func (.func 82) #[] #[.pointer (some ⟨b, 0, none⟩)]]⟩, ⟨w.heap.size + 1, 31, [.int .i64 0, .int .i64 0, .int .i64 (((T : Nat) : Int)), .bool g]⟩, ⟨w.heap.size + 1 + 1, 107, [.bool false, .bool false, .bool false]⟩, ⟨g5, 107, [.bool s, .bool m, .bool c]⟩] ∧ RgM wr w.heap.size bm al rB DB nB left cnt ∧ Below w.heap.size w wr) ∧ RMet al (fun e => m = true ∧ ¬ (0, 0) ∈ e.us) left c) (fun _ wr => wr.rangeLeft bm rB)
                case atStart => exact ⟨_, _, _, ⟨HE1, HM1, HB1⟩, HMT0⟩
                case round =>
                  clear HE1 HM1 HB1 HMT0
                  obtain ⟨left, cnt, c, ⟨he, hmm, hb⟩, hmt⟩ := hrel
                  have HB := Hd.mk hb
                  have HE : Hd (Env wr [⟨w.heap.size, 104, [.int .i64 Wd, .int .i64 Ht, .slice (some ad) xs.length k, .int .i64 n, .func (.func 82) #[] #[.pointer (some ⟨b, 0, none⟩)]]⟩, ⟨w.heap.size + 1, 31, [.int .i64 0, .int .i64 0, .int .i64 (((T : Nat) : Int)), .bool g]⟩, ⟨w.heap.size + 1 + 1, 107, [.bool false, .bool false, .bool false]⟩, ⟨g5, 107, [.bool s, .bool m, .bool c]⟩]) := ⟨he⟩
                  have HM := Hd.mk hmm
                  have HMT := Hd.mk hmt
                  clear he hmm hb hmt
                  go_wp2_with (first | (at_next; refine wpList_next_ranges _ rfl _ rfl _ keyedV RB (fun v : Value => v) (fun c : Option Nat => .map c) (fun key kl h => ⟨key, rfl⟩) (fun v y h => let ⟨c, h1, _⟩ := RB_inv h; ⟨c, h1⟩) bm rB nB DB left cnt rfl HM.out.rg ?_ ?_) | fail)
                  · intro _ hl0
                    have HCI := Hd.mk (HMT.out.done HM.out.mm hl0)
                    have HFI := Hd.mk (cls_of HMI.out HCI.out HCM.out HCC.out)
                    clear HMT hl0
                    go_upto_region 30 with fail
                    refine wp_region_vd 1 [129] [] [] 84 [.int .i64 0, .int .i64 0] [isV (.agg #[.bool s, .bool m, .bool c])] (by rfl) alloc_Z ?_ ?_
                    · intro qi qh qA aa wx hb hs hd
                      match qi, qh, qA with
                      | 0, _, _ => exact .inl ⟨rfl, op_ldC rfl rfl (hs 5 rfl) ((HE.out.to hb).get 3 rfl)⟩
                      | qi + 1, h, _ => omega
                    · intro vs X1 hb hv hal hne
                      have HL0 := Hd.mk (HE.out.lt)
                      have HBW := HB
                      replace HB := Hd.mk (bel_then HB.out hb)
                      replace HE : Hd (Env X1 [⟨w.heap.size, 104, [.int .i64 Wd, .int .i64 Ht, .slice (some ad) xs.length k, .int .i64 n, .func (.func 82) #[] #[.pointer (some ⟨b, 0, none⟩)]]⟩, ⟨w.heap.size + 1, 31, [.int .i64 0, .int .i64 0, .int .i64 (((T : Nat) : Int)), .bool g]⟩, ⟨w.heap.size + 1 + 1, 107, [.bool false, .bool false, .bool false]⟩, ⟨g5, 107, [.bool s, .bool m, .bool c]⟩]) := ⟨HE.out.to hb⟩
                      have HLS := HL0
                      replace HM := Hd.mk (HM.out.to hb)
                      have e129 : vs 129 = .agg #[.bool s, .bool m, .bool c] := hv 0 (by decide) rfl
                      simp only [putAll, List.foldl_cons, List.foldl_nil, Act.put, List.setIfInBounds_toArray, List.set_cons_succ, List.set_cons_zero, List.drop_succ_cons, List.drop_zero, e129]
                      clear hv hal hne hb HL0 HBW HLS e129
                      refine wpList_st rfl rfl rfl rfl rfl (sto_C (HE.out.get 2 rfl)) ?_
                      have HE' : Env (putL X1 (w.heap.size + 1 + 1) 0 [.bool s, .bool m, .bool c]) [⟨w.heap.size, 104, [.int .i64 Wd, .int .i64 Ht, .slice (some ad) xs.length k, .int .i64 n, .func (.func 82) #[] #[.pointer (some ⟨b, 0, none⟩)]]⟩, ⟨w.heap.size + 1, 31, [.int .i64 0, .int .i64 0, .int .i64 (((T : Nat) : Int)), .bool g]⟩, ⟨w.heap.size + 1 + 1, 107, [.bool s, .bool m, .bool c]⟩, ⟨g5, 107, [.bool s, .bool m, .bool c]⟩] := HE.out.putF 2 rfl rfl
                      have HB' := putL_below (show w.heap.size ≤ w.heap.size + 1 + 1 from by omega) [.bool s, .bool m, .bool c] _ 0 HB.out
                      replace HM := Hd.mk (HM.out.putB (vs := [.bool s, .bool m, .bool c]) (o := 0) (HE.out.get 2 rfl))
                      generalize putL X1 (w.heap.size + 1 + 1) 0 [.bool s, .bool m, .bool c] = X2 at *
                      replace HE := Hd.mk HE'
                      replace HB := Hd.mk HB'
                      clear HE' HB'
                      go_wp2_with fail
                      have k0a := HE.out.cell 2 0 rfl rfl
                      have k0b := HE.out.cell 2 1 rfl rfl
                      have k0c := HE.out.cell 2 2 rfl rfl
                      refine bodyPost_ret (v := .agg #[.bool s, .bool m, .bool c]) (by simp [results, Try.results67, go_sem, k0a, k0b, k0c]) rfl ?_
                      exact ⟨_, rfl, HB.out, by show Value.agg #[.bool s, .bool m, .bool c] = _; rw [HSO.out, HFI.out.1, HFI.out.2]⟩
                  · skip
                    intro key c kl d0 p0 w1 cnt1 hk hlk hy0 hat hrg1 hlt hg1 hs1 hen
                    obtain ⟨e0, he0, hke0, rfl⟩ := HM.out.entry hy0 hat
                    have HE1 := Env.grownR HE.out hg1 HM.out.rg
                    have HB1 := HB.out.grown hg1 HB.out.size (fun z hz => by cases hz; exact HM.out.hr)
                    have HM1 := HM.out.next hg1 hrg1
                    have HLEFT := Hd.mk HM.out.rg.left_eq
                    have HLTC := Hd.mk hlt
                    have HEI := Hd.mk he0
                    have HKE := Hd.mk hke0
                    replace HE := Hd.mk HE1
                    replace HB := Hd.mk HB1
                    replace HM := Hd.mk HM1
                    clear HE1 HB1 HM1 hg1 hs1 hrg1 hlt hk hlk hy0 hat he0 hke0
                    go_upto_region 29 with fail
                    clear hen
                    obtain ⟨k0, hk0⟩ := keyV_of w zero_wf
                    have HK0 := Hd.mk hk0
                    clear hk0
                    rcases (show c = true ∨ c = false by cases c <;> simp) with hc0 | hc0
                    · rw [hc0] at HMT
                      have HC0 := Hd.mk hc0
                      clear hc0
                      refine wp_region_vd 13 [116, 117, 118, 119, 120, 121, 122, 123, 124, 125, 126, 127, 128] [0, 2, 11, 12] [] 84 [.int .i64 0, .int .i64 0] [isV (.pointer (some ⟨g5, 2, none⟩)), isV (.bool true), isV (.bool true), isV undef, isV undef, isV undef, isV undef, isV undef, isV undef, isV undef, isV undef, isV (.bool true), isV (.pointer (some ⟨g5, 2, none⟩))] (by rfl) alloc_Z ?_ ?_
                      · intro qi qh qA aa wx hb hs hd
                        match qi, qh, qA with
                        | 0, _, _ => exact .inl ⟨rfl, ⟨_, op_faC2 rfl (hs 5 rfl), rfl⟩⟩
                        | 1, _, _ => exact .inl ⟨rfl, wp_b (bool_eq HC0.out) (op_ldB rfl rfl (hd 0 rfl) ((HE.out.to hb).cell 3 2 rfl rfl))⟩
                        | 2, _, _ => exact .inl ⟨rfl, op_mv rfl (hd 1 rfl)⟩
                        | 3, _, _ => exact .inr ⟨⟨rfl, .inl (hd 2 rfl)⟩, rfl⟩
                        | 4, _, _ => exact .inr ⟨⟨rfl, .inl (hd 2 rfl)⟩, rfl⟩
                        | 5, _, _ => exact .inr ⟨⟨rfl, .inl (hd 2 rfl)⟩, rfl⟩
                        | 6, _, _ => exact .inr ⟨⟨rfl, .inr ⟨rfl, hd 5 rfl⟩⟩, rfl⟩
                        | 7, _, _ => exact .inr ⟨⟨rfl, .inr ⟨rfl, hd 5 rfl⟩⟩, rfl⟩
                        | 8, _, _ => exact .inr ⟨⟨rfl, .inr ⟨rfl, hd 5 rfl⟩⟩, rfl⟩
                        | 9, _, _ => exact .inr ⟨⟨rfl, .inr ⟨rfl, hd 5 rfl⟩⟩, rfl⟩
                        | 10, _, _ => exact .inr ⟨⟨rfl, .inl (hd 2 rfl)⟩, rfl⟩
                        | 11, _, _ => exact .inl ⟨rfl, ⟨_, op_pickT rfl (hd 2 rfl) rfl, rfl⟩⟩
                        | 12, _, _ => exact .inl ⟨rfl, ⟨_, op_faC2 rfl (hs 5 rfl), rfl⟩⟩
                        | qi + 13, h, _ => omega
                      · intro vs X1 hb hv hal hne
                        have HL0 := Hd.mk (HE.out.lt)
                        have HBW := HB
                        replace HB := Hd.mk (bel_then HB.out hb)
                        replace HE : Hd (Env X1 [⟨w.heap.size, 104, [.int .i64 Wd, .int .i64 Ht, .slice (some ad) xs.length k, .int .i64 n, .func (.func 82) #[] #[.pointer (some ⟨b, 0, none⟩)]]⟩, ⟨w.heap.size + 1, 31, [.int .i64 0, .int .i64 0, .int .i64 (((T : Nat) : Int)), .bool g]⟩, ⟨w.heap.size + 1 + 1, 107, [.bool false, .bool false, .bool false]⟩, ⟨g5, 107, [.bool s, .bool m, .bool c]⟩]) := ⟨HE.out.to hb⟩
                        have HLS := HL0
                        replace HM := Hd.mk (HM.out.to hb)
                        have e128 : vs 128 = .pointer (some ⟨g5, 2, none⟩) := hv 12 (by decide) rfl
                        have e127 : vs 127 = .bool true := hv 11 (by decide) rfl
                        simp only [putAll, List.foldl_cons, List.foldl_nil, Act.put, List.setIfInBounds_toArray, List.set_cons_succ, List.set_cons_zero, List.drop_succ_cons, List.drop_zero, e128, e127]
                        generalize vs 116 = s116
                        generalize vs 117 = s117
                        generalize vs 118 = s118
                        generalize vs 119 = s119
                        generalize vs 120 = s120
                        generalize vs 121 = s121
                        generalize vs 122 = s122
                        generalize vs 123 = s123
                        generalize vs 124 = s124
                        generalize vs 125 = s125
                        generalize vs 126 = s126
                        clear hv hal hne hb HL0 HBW HLS e128 e127
                        refine wpList_st rfl rfl rfl rfl rfl (sto_B (HE.out.get 3 rfl) rfl) ?_
                        have HE' : Env (putL X1 g5 2 [.bool true]) [⟨w.heap.size, 104, [.int .i64 Wd, .int .i64 Ht, .slice (some ad) xs.length k, .int .i64 n, .func (.func 82) #[] #[.pointer (some ⟨b, 0, none⟩)]]⟩, ⟨w.heap.size + 1, 31, [.int .i64 0, .int .i64 0, .int .i64 (((T : Nat) : Int)), .bool g]⟩, ⟨w.heap.size + 1 + 1, 107, [.bool false, .bool false, .bool false]⟩, ⟨g5, 107, [.bool s, .bool m, .bool true]⟩] := HE.out.putO 3 rfl
                        have HB' := putL_below (show w.heap.size ≤ g5 from G5.out) [.bool true] _ 2 HB.out
                        replace HM := Hd.mk (HM.out.putB (vs := [.bool true]) (o := 2) (HE.out.get 3 rfl))
                        generalize putL X1 g5 2 [.bool true] = X2 at *
                        replace HE := Hd.mk HE'
                        replace HB := Hd.mk HB'
                        clear HE' HB'
                        go_wp2_with fail
                        go_roundw
                        case rel => exact ⟨_, _, _, ⟨HE.out, HM.out, HB.out⟩, HMT.out.keep⟩
                        case measure => rw [HM.out.rg.left_eq, HLEFT.out]; exact HLTC.out
                    · rw [hc0] at HMT
                      have HC0 := Hd.mk hc0
                      clear hc0
                      rcases (show m = true ∨ m = false by cases m <;> simp) with hm0 | hm0
                      · have HM0 := Hd.mk hm0
                        clear hm0
                        refine wp_region_vd 13 [116, 117, 118, 119, 120, 121, 122, 123, 124, 125, 126, 127, 128] [0, 2, 3, 5, 6, 7, 9, 10, 11, 12] [] 84 [.int .i64 0, .int .i64 0] [isV (.pointer (some ⟨g5, 2, none⟩)), isV (.bool false), isV (.bool false), isV (.pointer (some ⟨g5, 1, none⟩)), isV (.bool true), isV (.bool true), isV (.map (some e0.b)), isV (.agg #[.int .i64 0, .int .i64 0]), isV (.bool (memV (0, 0) e0.us)), isV (.bool (!(memV (0, 0) e0.us))), isV (.bool (!(memV (0, 0) e0.us))), isV (.bool (!(memV (0, 0) e0.us))), isV (.pointer (some ⟨g5, 2, none⟩))] (by rfl) alloc_Z ?_ ?_
                        · intro qi qh qA aa wx hb hs hd
                          match qi, qh, qA with
                          | 0, _, _ => exact .inl ⟨rfl, ⟨_, op_faC2 rfl (hs 5 rfl), rfl⟩⟩
                          | 1, _, _ => exact .inl ⟨rfl, wp_b (bool_eq HC0.out) (op_ldB rfl rfl (hd 0 rfl) ((HE.out.to hb).cell 3 2 rfl rfl))⟩
                          | 2, _, _ => exact .inl ⟨rfl, op_mv rfl (hd 1 rfl)⟩
                          | 3, _, _ => exact .inl ⟨⟨rfl, .inl (hd 2 rfl)⟩, ⟨_, op_faC1 rfl (hs 5 rfl), rfl⟩⟩
                          | 4, _, _ => exact .inl ⟨⟨rfl, .inl (hd 2 rfl)⟩, wp_b (bool_eq HM0.out) (op_ldB rfl rfl (hd 3 rfl) ((HE.out.to hb).cell 3 1 rfl rfl))⟩
                          | 5, _, _ => exact .inl ⟨⟨rfl, .inl (hd 2 rfl)⟩, op_mv rfl (hd 4 rfl)⟩
                          | 6, _, _ => exact .inl ⟨⟨rfl, .inl (hd 5 rfl)⟩, op_mv rfl (hs 18 rfl)⟩
                          | 7, _, _ => exact .inl ⟨⟨rfl, .inl (hd 5 rfl)⟩, ⟨_, op_b0V rfl, rfl⟩⟩
                          | 8, _, _ => exact .inl ⟨⟨rfl, .inl (hd 5 rfl)⟩, op_lookV (u := (0, 0)) rfl rfl (hd 6 rfl) (hd 7 rfl) (((HM.out.mm.inn _ HEI.out).2.1).to hb) HK0.out⟩
                          | 9, _, _ => exact .inl ⟨⟨rfl, .inl (hd 5 rfl)⟩, ⟨_, op_not rfl (hd 8 rfl), rfl⟩⟩
                          | 10, _, _ => exact .inl ⟨⟨rfl, .inl (hd 2 rfl)⟩, ⟨_, op_pickT rfl (hd 5 rfl) (hd 9 rfl), rfl⟩⟩
                          | 11, _, _ => exact .inl ⟨rfl, ⟨_, op_pickF rfl (hd 2 rfl) (hd 10 rfl), rfl⟩⟩
                          | 12, _, _ => exact .inl ⟨rfl, ⟨_, op_faC2 rfl (hs 5 rfl), rfl⟩⟩
                          | qi + 13, h, _ => omega
                        · intro vs X1 hb hv hal hne
                          have HL0 := Hd.mk (HE.out.lt)
                          have HBW := HB
                          replace HB := Hd.mk (bel_then HB.out hb)
                          replace HE : Hd (Env X1 [⟨w.heap.size, 104, [.int .i64 Wd, .int .i64 Ht, .slice (some ad) xs.length k, .int .i64 n, .func (.func 82) #[] #[.pointer (some ⟨b, 0, none⟩)]]⟩, ⟨w.heap.size + 1, 31, [.int .i64 0, .int .i64 0, .int .i64 (((T : Nat) : Int)), .bool g]⟩, ⟨w.heap.size + 1 + 1, 107, [.bool false, .bool false, .bool false]⟩, ⟨g5, 107, [.bool s, .bool m, .bool c]⟩]) := ⟨HE.out.to hb⟩
                          have HLS := HL0
                          replace HM := Hd.mk (HM.out.to hb)
                          have e128 : vs 128 = .pointer (some ⟨g5, 2, none⟩) := hv 12 (by decide) rfl
                          have e127 : vs 127 = .bool (!(memV (0, 0) e0.us)) := hv 11 (by decide) rfl
                          simp only [putAll, List.foldl_cons, List.foldl_nil, Act.put, List.setIfInBounds_toArray, List.set_cons_succ, List.set_cons_zero, List.drop_succ_cons, List.drop_zero, e128, e127]
                          generalize vs 116 = s116
                          generalize vs 117 = s117
                          generalize vs 118 = s118
                          generalize vs 119 = s119
                          generalize vs 120 = s120
                          generalize vs 121 = s121
                          generalize vs 122 = s122
                          generalize vs 123 = s123
                          generalize vs 124 = s124
                          generalize vs 125 = s125
                          generalize vs 126 = s126
                          clear hv hal hne hb HL0 HBW HLS e128 e127
                          refine wpList_st rfl rfl rfl rfl rfl (sto_B (HE.out.get 3 rfl) rfl) ?_
                          have HE' : Env (putL X1 g5 2 [.bool (!(memV (0, 0) e0.us))]) [⟨w.heap.size, 104, [.int .i64 Wd, .int .i64 Ht, .slice (some ad) xs.length k, .int .i64 n, .func (.func 82) #[] #[.pointer (some ⟨b, 0, none⟩)]]⟩, ⟨w.heap.size + 1, 31, [.int .i64 0, .int .i64 0, .int .i64 (((T : Nat) : Int)), .bool g]⟩, ⟨w.heap.size + 1 + 1, 107, [.bool false, .bool false, .bool false]⟩, ⟨g5, 107, [.bool s, .bool m, .bool (!(memV (0, 0) e0.us))]⟩] := HE.out.putO 3 rfl
                          have HB' := putL_below (show w.heap.size ≤ g5 from G5.out) [.bool (!(memV (0, 0) e0.us))] _ 2 HB.out
                          replace HM := Hd.mk (HM.out.putB (vs := [.bool (!(memV (0, 0) e0.us))]) (o := 2) (HE.out.get 3 rfl))
                          generalize putL X1 g5 2 [.bool (!(memV (0, 0) e0.us))] = X2 at *
                          replace HE := Hd.mk HE'
                          replace HB := Hd.mk HB'
                          clear HE' HB'
                          go_wp2_with fail
                          go_roundw
                          case rel => exact ⟨_, _, _, ⟨HE.out, HM.out, HB.out⟩, HMT.out.or_ HM.out.mm HEI.out HKE.out (by rw [Bool.not_eq_true', ← memV_iff, Bool.not_eq_true]; exact ⟨fun h7 => ⟨HM0.out, h7⟩, fun h7 => h7.2⟩)⟩
                          case measure => rw [HM.out.rg.left_eq, HLEFT.out]; exact HLTC.out
                      · have HM0 := Hd.mk hm0
                        clear hm0
                        refine wp_region_vd 13 [116, 117, 118, 119, 120, 121, 122, 123, 124, 125, 126, 127, 128] [0, 2, 3, 5, 10, 11, 12] [] 84 [.int .i64 0, .int .i64 0] [isV (.pointer (some ⟨g5, 2, none⟩)), isV (.bool false), isV (.bool false), isV (.pointer (some ⟨g5, 1, none⟩)), isV (.bool false), isV (.bool false), isV undef, isV undef, isV undef, isV undef, isV (.bool false), isV (.bool false), isV (.pointer (some ⟨g5, 2, none⟩))] (by rfl) alloc_Z ?_ ?_
                        · intro qi qh qA aa wx hb hs hd
                          match qi, qh, qA with
                          | 0, _, _ => exact .inl ⟨rfl, ⟨_, op_faC2 rfl (hs 5 rfl), rfl⟩⟩
                          | 1, _, _ => exact .inl ⟨rfl, wp_b (bool_eq HC0.out) (op_ldB rfl rfl (hd 0 rfl) ((HE.out.to hb).cell 3 2 rfl rfl))⟩
                          | 2, _, _ => exact .inl ⟨rfl, op_mv rfl (hd 1 rfl)⟩
                          | 3, _, _ => exact .inl ⟨⟨rfl, .inl (hd 2 rfl)⟩, ⟨_, op_faC1 rfl (hs 5 rfl), rfl⟩⟩
                          | 4, _, _ => exact .inl ⟨⟨rfl, .inl (hd 2 rfl)⟩, wp_b (bool_eq HM0.out) (op_ldB rfl rfl (hd 3 rfl) ((HE.out.to hb).cell 3 1 rfl rfl))⟩
                          | 5, _, _ => exact .inl ⟨⟨rfl, .inl (hd 2 rfl)⟩, op_mv rfl (hd 4 rfl)⟩
                          | 6, _, _ => exact .inr ⟨⟨rfl, .inl (hd 5 rfl)⟩, rfl⟩
                          | 7, _, _ => exact .inr ⟨⟨rfl, .inl (hd 5 rfl)⟩, rfl⟩
                          | 8, _, _ => exact .inr ⟨⟨rfl, .inl (hd 5 rfl)⟩, rfl⟩
                          | 9, _, _ => exact .inr ⟨⟨rfl, .inl (hd 5 rfl)⟩, rfl⟩
                          | 10, _, _ => exact .inl ⟨⟨rfl, .inl (hd 2 rfl)⟩, ⟨_, op_pickF rfl (hd 5 rfl) rfl, rfl⟩⟩
                          | 11, _, _ => exact .inl ⟨rfl, ⟨_, op_pickF rfl (hd 2 rfl) (hd 10 rfl), rfl⟩⟩
                          | 12, _, _ => exact .inl ⟨rfl, ⟨_, op_faC2 rfl (hs 5 rfl), rfl⟩⟩
                          | qi + 13, h, _ => omega
                        · intro vs X1 hb hv hal hne
                          have HL0 := Hd.mk (HE.out.lt)
                          have HBW := HB
                          replace HB := Hd.mk (bel_then HB.out hb)
                          replace HE : Hd (Env X1 [⟨w.heap.size, 104, [.int .i64 Wd, .int .i64 Ht, .slice (some ad) xs.length k, .int .i64 n, .func (.func 82) #[] #[.pointer (some ⟨b, 0, none⟩)]]⟩, ⟨w.heap.size + 1, 31, [.int .i64 0, .int .i64 0, .int .i64 (((T : Nat) : Int)), .bool g]⟩, ⟨w.heap.size + 1 + 1, 107, [.bool false, .bool false, .bool false]⟩, ⟨g5, 107, [.bool s, .bool m, .bool c]⟩]) := ⟨HE.out.to hb⟩
                          have HLS := HL0
                          replace HM := Hd.mk (HM.out.to hb)
                          have e128 : vs 128 = .pointer (some ⟨g5, 2, none⟩) := hv 12 (by decide) rfl
                          have e127 : vs 127 = .bool false := hv 11 (by decide) rfl
                          simp only [putAll, List.foldl_cons, List.foldl_nil, Act.put, List.setIfInBounds_toArray, List.set_cons_succ, List.set_cons_zero, List.drop_succ_cons, List.drop_zero, e128, e127]
                          generalize vs 116 = s116
                          generalize vs 117 = s117
                          generalize vs 118 = s118
                          generalize vs 119 = s119
                          generalize vs 120 = s120
                          generalize vs 121 = s121
                          generalize vs 122 = s122
                          generalize vs 123 = s123
                          generalize vs 124 = s124
                          generalize vs 125 = s125
                          generalize vs 126 = s126
                          clear hv hal hne hb HL0 HBW HLS e128 e127
                          refine wpList_st rfl rfl rfl rfl rfl (sto_B (HE.out.get 3 rfl) rfl) ?_
                          have HE' : Env (putL X1 g5 2 [.bool false]) [⟨w.heap.size, 104, [.int .i64 Wd, .int .i64 Ht, .slice (some ad) xs.length k, .int .i64 n, .func (.func 82) #[] #[.pointer (some ⟨b, 0, none⟩)]]⟩, ⟨w.heap.size + 1, 31, [.int .i64 0, .int .i64 0, .int .i64 (((T : Nat) : Int)), .bool g]⟩, ⟨w.heap.size + 1 + 1, 107, [.bool false, .bool false, .bool false]⟩, ⟨g5, 107, [.bool s, .bool m, .bool false]⟩] := HE.out.putO 3 rfl
                          have HB' := putL_below (show w.heap.size ≤ g5 from G5.out) [.bool false] _ 2 HB.out
                          replace HM := Hd.mk (HM.out.putB (vs := [.bool false]) (o := 2) (HE.out.get 3 rfl))
                          generalize putL X1 g5 2 [.bool false] = X2 at *
                          replace HE := Hd.mk HE'
                          replace HB := Hd.mk HB'
                          clear HE' HB'
                          go_wp2_with fail
                          go_roundw
                          case rel => exact ⟨_, _, _, ⟨HE.out, HM.out, HB.out⟩, HMT.out.or_ HM.out.mm HEI.out HKE.out ⟨fun h7 => (by cases h7), fun h7 => by have h8 := h7.1; rw [HM0.out] at h8; cases h8⟩⟩
                          case measure => rw [HM.out.rg.left_eq, HLEFT.out]; exact HLTC.out
              · skip
                intro key c kl d0 p0 w1 cnt1 hk hlk hy0 hat hrg1 hlt hg1 hs1 hen
                obtain ⟨e0, he0, hke0, rfl⟩ := HM.out.entry hy0 hat
                have HE1 := Env.grownR HE.out hg1 HM.out.rg
                have HB1 := HB.out.grown hg1 HB.out.size (fun z hz => by cases hz; exact HM.out.hr)
                have HM1 := HM.out.next hg1 hrg1
                have HLEFT := Hd.mk HM.out.rg.left_eq
                have HLTC := Hd.mk hlt
                have HEI := Hd.mk he0
                have HKE := Hd.mk hke0
                replace HE := Hd.mk HE1
                replace HB := Hd.mk HB1
                replace HM := Hd.mk HM1
                clear HE1 HB1 HM1 hg1 hs1 hrg1 hlt hk hlk hy0 hat he0 hke0
                go_upto_region 25 with fail
                clear hen
                obtain ⟨k0, hk0⟩ := keyV_of w zero_wf
                have HK0 := Hd.mk hk0
                clear hk0
                rcases (show m = true ∨ m = false by cases m <;> simp) with hm0 | hm0
                · rw [hm0] at HMT
                  have HM0 := Hd.mk hm0
                  clear hm0
                  refine wp_region_vd 8 [102, 103, 104, 105, 106, 107, 108, 109] [0, 2, 6, 7] [] 84 [.int .i64 0, .int .i64 0] [isV (.pointer (some ⟨g5, 1, none⟩)), isV (.bool true), isV (.bool true), isV undef, isV undef, isV undef, isV (.bool true), isV (.pointer (some ⟨g5, 1, none⟩))] (by rfl) alloc_Z ?_ ?_
                  · intro qi qh qA aa wx hb hs hd
                    match qi, qh, qA with
                    | 0, _, _ => exact .inl ⟨rfl, ⟨_, op_faC1 rfl (hs 5 rfl), rfl⟩⟩
                    | 1, _, _ => exact .inl ⟨rfl, wp_b (bool_eq HM0.out) (op_ldB rfl rfl (hd 0 rfl) ((HE.out.to hb).cell 3 1 rfl rfl))⟩
                    | 2, _, _ => exact .inl ⟨rfl, op_mv rfl (hd 1 rfl)⟩
                    | 3, _, _ => exact .inr ⟨⟨rfl, .inl (hd 2 rfl)⟩, rfl⟩
                    | 4, _, _ => exact .inr ⟨⟨rfl, .inl (hd 2 rfl)⟩, rfl⟩
                    | 5, _, _ => exact .inr ⟨⟨rfl, .inl (hd 2 rfl)⟩, rfl⟩
                    | 6, _, _ => exact .inl ⟨rfl, ⟨_, op_pickT rfl (hd 2 rfl) rfl, rfl⟩⟩
                    | 7, _, _ => exact .inl ⟨rfl, ⟨_, op_faC1 rfl (hs 5 rfl), rfl⟩⟩
                    | qi + 8, h, _ => omega
                  · intro vs X1 hb hv hal hne
                    have HL0 := Hd.mk (HE.out.lt)
                    have HBW := HB
                    replace HB := Hd.mk (bel_then HB.out hb)
                    replace HE : Hd (Env X1 [⟨w.heap.size, 104, [.int .i64 Wd, .int .i64 Ht, .slice (some ad) xs.length k, .int .i64 n, .func (.func 82) #[] #[.pointer (some ⟨b, 0, none⟩)]]⟩, ⟨w.heap.size + 1, 31, [.int .i64 0, .int .i64 0, .int .i64 (((T : Nat) : Int)), .bool g]⟩, ⟨w.heap.size + 1 + 1, 107, [.bool false, .bool false, .bool false]⟩, ⟨g5, 107, [.bool s, .bool m, .bool false]⟩]) := ⟨HE.out.to hb⟩
                    have HLS := HL0
                    replace HM := Hd.mk (HM.out.to hb)
                    have e109 : vs 109 = .pointer (some ⟨g5, 1, none⟩) := hv 7 (by decide) rfl
                    have e108 : vs 108 = .bool true := hv 6 (by decide) rfl
                    simp only [putAll, List.foldl_cons, List.foldl_nil, Act.put, List.setIfInBounds_toArray, List.set_cons_succ, List.set_cons_zero, List.drop_succ_cons, List.drop_zero, e109, e108]
                    generalize vs 102 = s102
                    generalize vs 103 = s103
                    generalize vs 104 = s104
                    generalize vs 105 = s105
                    generalize vs 106 = s106
                    generalize vs 107 = s107
                    clear hv hal hne hb HL0 HBW HLS e109 e108
                    refine wpList_st rfl rfl rfl rfl rfl (sto_B (HE.out.get 3 rfl) rfl) ?_
                    have HE' : Env (putL X1 g5 1 [.bool true]) [⟨w.heap.size, 104, [.int .i64 Wd, .int .i64 Ht, .slice (some ad) xs.length k, .int .i64 n, .func (.func 82) #[] #[.pointer (some ⟨b, 0, none⟩)]]⟩, ⟨w.heap.size + 1, 31, [.int .i64 0, .int .i64 0, .int .i64 (((T : Nat) : Int)), .bool g]⟩, ⟨w.heap.size + 1 + 1, 107, [.bool false, .bool false, .bool false]⟩, ⟨g5, 107, [.bool s, .bool true, .bool false]⟩] := HE.out.putO 3 rfl
                    have HB' := putL_below (show w.heap.size ≤ g5 from G5.out) [.bool true] _ 1 HB.out
                    replace HM := Hd.mk (HM.out.putB (vs := [.bool true]) (o := 1) (HE.out.get 3 rfl))
                    generalize putL X1 g5 1 [.bool true] = X2 at *
                    replace HE := Hd.mk HE'
                    replace HB := Hd.mk HB'
                    clear HE' HB'
                    go_wp2_with fail
                    go_roundw
                    case rel => exact ⟨_, _, _, ⟨HE.out, HM.out, HB.out⟩, HMT.out.keep⟩
                    case measure => rw [HM.out.rg.left_eq, HLEFT.out]; exact HLTC.out
                · rw [hm0] at HMT
                  have HM0 := Hd.mk hm0
                  clear hm0
                  refine wp_region_vd 8 [102, 103, 104, 105, 106, 107, 108, 109] [0, 2, 3, 4, 6, 7] [] 84 [.int .i64 0, .int .i64 0] [isV (.pointer (some ⟨g5, 1, none⟩)), isV (.bool false), isV (.bool false), isV (.map (some e0.b)), isV (.agg #[.int .i64 0, .int .i64 0]), isV (.bool (memV (0, 0) e0.us)), isV (.bool (memV (0, 0) e0.us)), isV (.pointer (some ⟨g5, 1, none⟩))] (by rfl) alloc_Z ?_ ?_
                  · intro qi qh qA aa wx hb hs hd
                    match qi, qh, qA with
                    | 0, _, _ => exact .inl ⟨rfl, ⟨_, op_faC1 rfl (hs 5 rfl), rfl⟩⟩
                    | 1, _, _ => exact .inl ⟨rfl, wp_b (bool_eq HM0.out) (op_ldB rfl rfl (hd 0 rfl) ((HE.out.to hb).cell 3 1 rfl rfl))⟩
                    | 2, _, _ => exact .inl ⟨rfl, op_mv rfl (hd 1 rfl)⟩
                    | 3, _, _ => exact .inl ⟨⟨rfl, .inl (hd 2 rfl)⟩, op_mv rfl (hs 16 rfl)⟩
                    | 4, _, _ => exact .inl ⟨⟨rfl, .inl (hd 2 rfl)⟩, ⟨_, op_b0V rfl, rfl⟩⟩
                    | 5, _, _ => exact .inl ⟨⟨rfl, .inl (hd 2 rfl)⟩, op_lookV (u := (0, 0)) rfl rfl (hd 3 rfl) (hd 4 rfl) (((HM.out.mm.inn _ HEI.out).2.1).to hb) HK0.out⟩
                    | 6, _, _ => exact .inl ⟨rfl, ⟨_, op_pickF rfl (hd 2 rfl) (hd 5 rfl), rfl⟩⟩
                    | 7, _, _ => exact .inl ⟨rfl, ⟨_, op_faC1 rfl (hs 5 rfl), rfl⟩⟩
                    | qi + 8, h, _ => omega
                  · intro vs X1 hb hv hal hne
                    have HL0 := Hd.mk (HE.out.lt)
                    have HBW := HB
                    replace HB := Hd.mk (bel_then HB.out hb)
                    replace HE : Hd (Env X1 [⟨w.heap.size, 104, [.int .i64 Wd, .int .i64 Ht, .slice (some ad) xs.length k, .int .i64 n, .func (.func 82) #[] #[.pointer (some ⟨b, 0, none⟩)]]⟩, ⟨w.heap.size + 1, 31, [.int .i64 0, .int .i64 0, .int .i64 (((T : Nat) : Int)), .bool g]⟩, ⟨w.heap.size + 1 + 1, 107, [.bool false, .bool false, .bool false]⟩, ⟨g5, 107, [.bool s, .bool m, .bool false]⟩]) := ⟨HE.out.to hb⟩
                    have HLS := HL0
                    replace HM := Hd.mk (HM.out.to hb)
                    have e109 : vs 109 = .pointer (some ⟨g5, 1, none⟩) := hv 7 (by decide) rfl
                    have e108 : vs 108 = .bool (memV (0, 0) e0.us) := hv 6 (by decide) rfl
                    simp only [putAll, List.foldl_cons, List.foldl_nil, Act.put, List.setIfInBounds_toArray, List.set_cons_succ, List.set_cons_zero, List.drop_succ_cons, List.drop_zero, e109, e108]
                    generalize vs 102 = s102
                    generalize vs 103 = s103
                    generalize vs 104 = s104
                    generalize vs 105 = s105
                    generalize vs 106 = s106
                    generalize vs 107 = s107
                    clear hv hal hne hb HL0 HBW HLS e109 e108
                    refine wpList_st rfl rfl rfl rfl rfl (sto_B (HE.out.get 3 rfl) rfl) ?_
                    have HE' : Env (putL X1 g5 1 [.bool (memV (0, 0) e0.us)]) [⟨w.heap.size, 104, [.int .i64 Wd, .int .i64 Ht, .slice (some ad) xs.length k, .int .i64 n, .func (.func 82) #[] #[.pointer (some ⟨b, 0, none⟩)]]⟩, ⟨w.heap.size + 1, 31, [.int .i64 0, .int .i64 0, .int .i64 (((T : Nat) : Int)), .bool g]⟩, ⟨w.heap.size + 1 + 1, 107, [.bool false, .bool false, .bool false]⟩, ⟨g5, 107, [.bool s, .bool (memV (0, 0) e0.us), .bool false]⟩] := HE.out.putO 3 rfl
                    have HB' := putL_below (show w.heap.size ≤ g5 from G5.out) [.bool (memV (0, 0) e0.us)] _ 1 HB.out
                    replace HM := Hd.mk (HM.out.putB (vs := [.bool (memV (0, 0) e0.us)]) (o := 1) (HE.out.get 3 rfl))
                    generalize putL X1 g5 1 [.bool (memV (0, 0) e0.us)] = X2 at *
                    replace HE := Hd.mk HE'
                    replace HB := Hd.mk HB'
                    clear HE' HB'
                    go_wp2_with fail
                    go_roundw
                    case rel => exact ⟨_, _, _, ⟨HE.out, HM.out, HB.out⟩, HMT.out.or_ HM.out.mm HEI.out HKE.out memV_iff⟩
                    case measure => rw [HM.out.rg.left_eq, HLEFT.out]; exact HLTC.out
end Go.Proofs.Ytddbmckbankmeaa
