/- Part 12 of the texts behind this claim. -/
import Derived.Maps.RangeWalk
import Derived.Test.YtddbmckbankmeaaKs11
set_option linter.unusedVariables false
set_option linter.unusedSimpArgs false
namespace Go.Proofs.Ytddbmckbankmeaa
open Go.RowKit Go.ChangeShapes Go.WideShapes Go.ChangeAt Go.WideMaps Go.Joins
open Go.Maps (Keyed)
theorem rowV : (130 : TypeId) < Try.prog.types.size := of_decide_eq_true (by kernel_rfl)
theorem cellsSV : Try.prog.cellsOf 130 = 2 := by kernel_rfl
theorem deepV : Try.prog.keyTypeAt (Try.prog.types.size + 1) 130 = true := by kernel_rfl
theorem wideV : (match Try.prog.underlying 130 with | some (.array _ _) | some (.struct _) => true | _ => false) = true := by kernel_rfl
set_option maxRecDepth 100000 in
theorem lawV : KeyLaw Try.prog 130 := deep_law_laid laidM (m := 3) (by omega) rowV (by kernel_rfl) wideV
theorem keyedV : Keyed Try.prog 130 := Keyed.of_law lawV
def vvv (v : Int × Int) : Value := .agg #[.int .i64 v.1, .int .i64 v.2]
def WfV (v : Int × Int) : Prop := (Lit.int .i64 v.1).wf = true ∧ (Lit.int .i64 v.2).wf = true
noncomputable def keyV (v : Int × Int) : Option Lit := keyOf Try.prog 130 (vvv v)
set_option maxRecDepth 100000 in
theorem keyV_of (w : World) {v : Int × Int} (h : WfV v) : ∃ kl, keyV v = some kl := by
  have hf : (vvv v).formed Try.prog 130 = true := by simp [Value.formed, vvv, Try.underlying130, cellsSV]
  have ht : DataW.Trod (H := Unit) (fun _ => ()) Try.prog w 0 (fun _ => true) true 130 (vvv v) (.agg [.lit (.int .i64 v.1), .lit (.int .i64 v.2)]) [] :=
    ⟨2, by
      have h0 := trod_int_mk (H := Unit) (enc := fun _ => ()) (P := Try.prog) (w := w) (base := 0) (spare := fun _ => true) (held := true) 0 Try.underlying3 h.1
      have h1 := trod_int_mk (H := Unit) (enc := fun _ => ()) (P := Try.prog) (w := w) (base := 0) (spare := fun _ => true) (held := true) 0 Try.underlying3 h.2
      exact trod_struct2_mk (n := 1) (cs := [.int .i64 v.1, .int .i64 v.2]) Try.underlying130 cellsSV.symm (by simpa [cellsI1] using h0) (by simpa [cellsI1] using h1)⟩
  exact ⟨_, (keyOf_asKey deepV wideV hf ht).1⟩
theorem vvv_inj {m n : Int × Int} (h : vvv m = vvv n) : m = n := by
  obtain ⟨x, y⟩ := m
  obtain ⟨x', y'⟩ := n
  simp [vvv] at h
  simp [h]
theorem keyV_inj {u v : Int × Int} {kl : Lit} (h : keyV u = some kl) (h' : keyV v = some kl) : u = v := vvv_inj (keyedV.inj h h')
def memV (u : Int × Int) (us : List (Int × Int)) : Bool := us.any (fun x => x.1 == u.1 && x.2 == u.2)
theorem memV_iff {u : Int × Int} {us : List (Int × Int)} : memV u us = true ↔ u ∈ us := by
  unfold memV
  rw [List.any_eq_true]
  constructor
  · rintro ⟨x, h1, h2⟩
    simp only [Bool.and_eq_true, beq_iff_eq] at h2
    have : x = u := Prod.ext h2.1 h2.2
    rwa [this] at h1
  · intro h
    exact ⟨u, h, by simp⟩
def MapV (w : World) (b : Nat) (us : List (Int × Int)) : Prop := ∃ D : DataW Unit, w.ownsMap Try.prog 130 (plainElem Try.prog 4) b us.length D ∧ ∀ u kl, keyV u = some kl → D.atKey kl (.lit (.bool false)) = .lit (.bool (memV u us))
theorem owns_congr {k : TypeId} {R : Value → Option (DataW Unit × List MemPlace)} {w w' : World} {b n : Nat} {D : DataW Unit} (e : w'.heap[b]? = w.heap[b]?) (h : w.ownsMap Try.prog k R b n D) : w'.ownsMap Try.prog k R b n D := by
  obtain ⟨es, clock, hb, r⟩ := h
  exact ⟨es, clock, e.trans hb, r⟩
def IsM (w : World) (b : Nat) : Prop := ∃ es clock, w.heap[b]? = some (.map es clock)
theorem owns_isM {k : TypeId} {R : Value → Option (DataW Unit × List MemPlace)} {w : World} {b n : Nat} {D : DataW Unit} (h : w.ownsMap Try.prog k R b n D) : IsM w b := by
  obtain ⟨es, clock, hb, _⟩ := h
  exact ⟨es, clock, hb⟩
theorem isM_ne {w : World} {b g : Nat} {t : TypeId} {us : List Value} (h : IsM w b) (hg : Blk w g t us) : g ≠ b := fun e => by
  subst e
  obtain ⟨es, clock, hb⟩ := h
  unfold Blk at hg
  rw [hg] at hb
  cases hb
theorem putL_heap {g i : Nat} (hne : i ≠ g) : ∀ (vs : List Value) (w : World) (o : Nat), (putL w g o vs).heap[i]? = w.heap[i]?
  | [], _, _ => rfl
  | v :: vs, w, o => (putL_heap hne vs _ (o + 1)).trans (Below.heap_setCell w ⟨g, o, none⟩ v i hne)
section
variable {w w' : World} {b : Nat} {us : List (Int × Int)} {u : Int × Int}
theorem mapV_made (w : World) : MapV (w.alloc (.map #[] 0)) w.heap.size [] := ⟨.map [], World.ownsMap_made _ _ _ _, fun m kl _ => rfl⟩
theorem MapV.congr (h : MapV w b us) (e : w'.heap[b]? = w.heap[b]?) : MapV w' b us := by
  obtain ⟨D, h1, h2⟩ := h
  exact ⟨D, owns_congr e h1, h2⟩
theorem MapV.isM (h : MapV w b us) : IsM w b := by
  obtain ⟨D, h1, _⟩ := h
  exact owns_isM h1
theorem MapV.lt (h : MapV w b us) : b < w.heap.size := by
  obtain ⟨D, h1, _⟩ := h
  exact h1.lt
theorem MapV.to (h : MapV w b us) (hb : Below w.heap.size w w') : MapV w' b us := h.congr (hb.block b h.lt)
theorem MapV.look (h : MapV w b us) {kl : Lit} (hk : keyV u = some kl) : (Instr.lookup 133 (.map (some b)) (vvv u) false).run Try.prog w = .ok (.bool (memV u us)) w := by
  obtain ⟨D, h1, h2⟩ := h
  obtain ⟨v, ps, hrun, hv⟩ := h1.lookup keyedV Try.underlying133 (zeroBool w) (plainElem_bool Try.underlying4 false) hk
  obtain ⟨c, rfl, hc⟩ := plainElem_bool_inv Try.underlying4 hv
  rw [h2 u kl hk] at hc
  simp only [Prod.mk.injEq, DataW.lit.injEq, Lit.bool.injEq] at hc
  rw [hrun, hc.1]
theorem MapV.store (h : MapV w b us) {kl : Lit} (hk : keyV u = some kl) (hn : us.length < maxLen) : ∃ w', (Instr.mapUpdate 133 (.map (some b)) (vvv u) (.bool true)).run Try.prog w = .ok () w' ∧ MapV w' b (us ++ [u]) ∧ w.grownBy w' (some b) := by
  obtain ⟨D, h1, h2⟩ := h
  obtain ⟨w', r1, r2, r3⟩ := h1.update keyedV Try.underlying133 hn hk (plainElem_bool Try.underlying4 true)
  refine ⟨w', r1, ⟨D.put kl (.lit (.bool true)), by rw [List.length_append]; exact r2, fun n nl hnk => ?_⟩, r3⟩
  by_cases e : nl = kl
  · subst e
    have := keyV_inj hnk hk
    subst this
    rw [Maps.atKey_put_same h1.isMap (keyedV.key hk)]
    rw [show memV n (us ++ [n]) = true from memV_iff.2 (by simp)]
  · rw [Maps.atKey_put_other e, h2 n nl hnk]
    have hne : n ≠ u := fun e2 => by
      subst e2
      rw [hnk] at hk
      exact e (Option.some.inj hk)
    have : memV n (us ++ [u]) = memV n us := by
      have h3 : memV n (us ++ [u]) = true ↔ memV n us = true := by
        rw [memV_iff, memV_iff, List.mem_append, List.mem_singleton]
        exact ⟨fun h => h.elim (fun h => h) (fun h => absurd h hne), .inl⟩
      cases h4 : memV n us
      · cases h5 : memV n (us ++ [u])
        · rfl
        · rw [h3.1 h5] at h4
          cases h4
      · exact h3.2 h4
    rw [this]
end
structure Ae where
  v : Int × Int
  b : Nat
  us : List (Int × Int)
def fnd (al : List Ae) (v : Int × Int) : Option Ae := al.find? (fun e => decide (e.v = v))
def RB (v : Value) : Option (DataW Unit × List MemPlace) := match v with | .map (some b) => some (.lit (.int .i64 (b : Int)), []) | .map none => some (.nil, []) | _ => none
theorem RB_inv {v : Value} {z : DataW Unit × List MemPlace} (h : RB v = some z) : ∃ c : Option Nat, v = .map c ∧ z = ((match c with | some b => .lit (.int .i64 (b : Int)) | none => .nil), []) := by
  unfold RB at h
  split at h
  · injection h with h
    exact ⟨some _, rfl, h.symm⟩
  · injection h with h
    exact ⟨none, rfl, h.symm⟩
  · cases h
def atA (al : List Ae) (v : Int × Int) (z : DataW Unit) : DataW Unit := match fnd al v with | some e => .lit (.int .i64 (e.b : Int)) | none => z
def OutM (w : World) (bm : Nat) (al : List Ae) (D : DataW Unit) (n : Nat) : Prop := w.ownsMap Try.prog 130 RB bm n D ∧ n ≤ al.length ∧ (∀ v kl z, keyV v = some kl → D.atKey kl z = atA al v z) ∧ ∀ kl, Maps.has D kl = true → ∃ e ∈ al, keyV e.v = some kl
structure MM (w : World) (lo bm : Nat) (al : List Ae) : Prop where
  out : ∃ D n, OutM w bm al D n
  hlo : lo ≤ bm
  inn : ∀ e ∈ al, (∃ kl, keyV e.v = some kl) ∧ MapV w e.b e.us ∧ lo ≤ e.b ∧ e.b ≠ bm
  ap : al.Pairwise (fun e e' => e.v ≠ e'.v ∧ e.b ≠ e'.b)
section
variable {w w' : World} {lo bm b r : Nat} {al : List Ae} {e e' : Ae} {u v : Int × Int}
theorem ap_eq (h : al.Pairwise (fun e e' => e.v ≠ e'.v ∧ e.b ≠ e'.b)) (he : e ∈ al) (he' : e' ∈ al) : (e.v = e'.v → e = e') ∧ (e.b = e'.b → e = e') := by
  induction al with
  | nil => cases he
  | cons a l ih =>
    rw [List.pairwise_cons] at h
    rcases List.mem_cons.1 he with e1 | h1
    · rcases List.mem_cons.1 he' with e2 | h2
      · exact ⟨fun _ => e1.trans e2.symm, fun _ => e1.trans e2.symm⟩
      · rw [e1]
        exact ⟨fun h3 => absurd h3 (h.1 e' h2).1, fun h3 => absurd h3 (h.1 e' h2).2⟩
    · rcases List.mem_cons.1 he' with e2 | h2
      · rw [e2]
        exact ⟨fun h3 => absurd h3.symm (h.1 e h1).1, fun h3 => absurd h3.symm (h.1 e h1).2⟩
      · exact ih h.2 h1 h2
theorem fnd_some (h : fnd al v = some e) : e ∈ al ∧ e.v = v := ⟨List.mem_of_find?_eq_some h, by simpa using List.find?_some h⟩
theorem fnd_none (h : fnd al v = none) : ∀ e ∈ al, e.v ≠ v := fun e he => by simpa using List.find?_eq_none.1 h e he
theorem fnd_mem (ha : al.Pairwise (fun e e' => e.v ≠ e'.v ∧ e.b ≠ e'.b)) (he : e ∈ al) : fnd al e.v = some e := by
  cases h : fnd al e.v with
  | none => exact absurd rfl (fnd_none h e he)
  | some x =>
    obtain ⟨h1, h2⟩ := fnd_some h
    rw [(ap_eq ha h1 he).1 h2]
theorem MM.congr (h : MM w lo bm al) (h0 : w'.heap[bm]? = w.heap[bm]?) (h1 : ∀ e ∈ al, w'.heap[e.b]? = w.heap[e.b]?) : MM w' lo bm al := by
  obtain ⟨⟨D, n, a1, a2⟩, h2, h3, h4⟩ := h
  exact ⟨⟨D, n, owns_congr h0 a1, a2⟩, h2, fun e he => ⟨(h3 e he).1, (h3 e he).2.1.congr (h1 e he), (h3 e he).2.2⟩, h4⟩
theorem MM.isM (h : MM w lo bm al) : IsM w bm := by
  obtain ⟨⟨D, n, a1, a2⟩, _⟩ := h
  exact owns_isM a1
theorem MM.lt (h : MM w lo bm al) : bm < w.heap.size := by
  obtain ⟨⟨D, n, a1, a2⟩, _⟩ := h
  exact a1.lt
theorem MM.to (h : MM w lo bm al) (hb : Below w.heap.size w w') : MM w' lo bm al := h.congr (hb.block bm h.lt) (fun e he => hb.block e.b (h.inn e he).2.1.lt)
theorem MM.putB (h : MM w lo bm al) {g o : Nat} {t : TypeId} {us vs : List Value} (hg : Blk w g t us) : MM (putL w g o vs) lo bm al :=
  h.congr (putL_heap (Ne.symm (isM_ne h.isM hg)) vs w o) (fun e he => putL_heap (Ne.symm (isM_ne (h.inn e he).2.1.isM hg)) vs w o)
theorem MM.grown (h : MM w lo bm al) (hg : w.grownBy w' (some r)) (h0 : bm ≠ r) (h1 : ∀ e ∈ al, e.b ≠ r) : MM w' lo bm al :=
  h.congr (hg.block bm h.lt (fun e2 => h0 (Option.some.inj e2))) (fun e he => hg.block e.b (h.inn e he).2.1.lt (fun e2 => h1 e he (Option.some.inj e2)))
theorem MM.grownN (h : MM w lo bm al) (hg : w.grownBy w' none) : MM w' lo bm al :=
  h.congr (hg.block bm h.lt (fun e2 => by cases e2)) (fun e he => hg.block e.b (h.inn e he).2.1.lt (fun e2 => by cases e2))
theorem mm_made (w : World) {lo : Nat} (hlo : lo ≤ w.heap.size) : MM (w.alloc (.map #[] 0)) lo w.heap.size [] :=
  ⟨⟨.map [], 0, World.ownsMap_made _ _ _ _, Nat.le_refl _, (fun v kl z _ => rfl), fun kl h => (by simp [Maps.has] at h)⟩, hlo, fun e he => (by cases he), List.Pairwise.nil⟩
theorem zeroMap (w : World) : (zeroValue 133).run Try.prog w = .ok (.map none) w := by kernel_rfl
theorem MM.look (h : MM w lo bm al) {kl : Lit} (hk : keyV v = some kl) : (Instr.lookup 127 (.map (some bm)) (vvv v) false).run Try.prog w = .ok (.map ((fnd al v).map Ae.b)) w := by
  obtain ⟨⟨D, n, a1, a2, a3, a4⟩, _⟩ := h
  obtain ⟨x, ps, hrun, hv⟩ := a1.lookup keyedV Try.underlying127 (zeroMap w) (zd := .nil) (zp := []) rfl hk
  obtain ⟨c, rfl, hc⟩ := RB_inv hv
  rw [a3 v kl _ hk] at hc
  have hc1 := congrArg Prod.fst hc
  simp only at hc1
  rw [hrun]
  unfold atA at hc1
  cases hf : fnd al v with
  | none =>
    rw [hf] at hc1
    cases c with
    | none => rfl
    | some q => cases hc1
  | some e =>
    rw [hf] at hc1
    cases c with
    | none => cases hc1
    | some q =>
      have hc2 : (DataW.lit (.int .i64 (e.b : Int)) : DataW Unit) = .lit (.int .i64 (q : Int)) := hc1
      simp only [DataW.lit.injEq, Lit.int.injEq, true_and] at hc2
      have : q = e.b := by omega
      subst this
      rfl
theorem MM.store (h : MM w lo bm al) {kl : Lit} (hk : keyV v = some kl) (hf : fnd al v = none) (hm : MapV w b []) (hlo : lo ≤ b) (hb : b ≠ bm) (hbe : ∀ e ∈ al, e.b ≠ b) (hn : al.length < maxLen) :
    ∃ w', (Instr.mapUpdate 127 (.map (some bm)) (vvv v) (.map (some b))).run Try.prog w = .ok () w' ∧ MM w' lo bm (al ++ [⟨v, b, []⟩]) ∧ w.grownBy w' (some bm) := by
  have hbm := h.lt
  obtain ⟨⟨D, n, a1, a2, a3, a4⟩, h2, h3, h4⟩ := h
  obtain ⟨w', r1, r2, r3⟩ := a1.update keyedV Try.underlying127 (Nat.lt_of_le_of_lt a2 hn) hk (show RB (.map (some b)) = some (.lit (.int .i64 (b : Int)), []) from rfl)
  have hkeep : ∀ q, q < w.heap.size → q ≠ bm → w'.heap[q]? = w.heap[q]? := fun q h1 h2 => r3.block q h1 (fun e2 => h2 (Option.some.inj e2))
  refine ⟨w', r1, ⟨⟨_, _, r2, by rw [List.length_append]; exact Nat.succ_le_succ a2, fun x nl z hx => ?_, fun nl hh => ?_⟩, h2, fun e he => ?_, ?_⟩, r3⟩
  · unfold atA fnd
    rw [List.find?_append]
    by_cases e : nl = kl
    · subst e
      have := keyV_inj hx hk
      subst this
      rw [Maps.atKey_put_same a1.isMap (keyedV.key hk)]
      rw [show al.find? (fun e => decide (e.v = x)) = none from hf]
      simp
    · rw [Maps.atKey_put_other e, a3 x nl z hx]
      have hne : v ≠ x := fun e2 => by
        subst e2
        rw [hx] at hk
        exact e (Option.some.inj hk)
      unfold atA fnd
      simp [hne]
  · by_cases e : nl = kl
    · subst e
      exact ⟨_, List.mem_append_right _ (List.mem_singleton.2 rfl), hk⟩
    · rw [Maps.has_put_other e] at hh
      obtain ⟨x, hx, hx2⟩ := a4 nl hh
      exact ⟨x, List.mem_append_left _ hx, hx2⟩
  · rcases List.mem_append.1 he with he | he
    · obtain ⟨q1, q2, q3, q4⟩ := h3 e he
      exact ⟨q1, q2.congr (hkeep e.b q2.lt q4), q3, q4⟩
    · rw [List.mem_singleton.1 he]
      exact ⟨⟨kl, hk⟩, hm.congr (hkeep b hm.lt hb), hlo, hb⟩
  · rw [List.pairwise_append]
    refine ⟨h4, by simp, fun e he e' he' => ?_⟩
    rw [List.mem_singleton.1 he']
    exact ⟨fnd_none hf e he, hbe e he⟩
def upd (al : List Ae) (v u : Int × Int) : List Ae := al.map (fun e => if e.v = v then ⟨e.v, e.b, e.us ++ [u]⟩ else e)
theorem upd_vb (e : Ae) : (if e.v = v then (⟨e.v, e.b, e.us ++ [u]⟩ : Ae) else e).v = e.v ∧ (if e.v = v then (⟨e.v, e.b, e.us ++ [u]⟩ : Ae) else e).b = e.b := by split <;> exact ⟨rfl, rfl⟩
theorem fnd_upd (v' : Int × Int) : (fnd (upd al v u) v').map Ae.b = (fnd al v').map Ae.b := by
  unfold fnd upd
  induction al with
  | nil => rfl
  | cons a l ih =>
    rw [List.map_cons, List.find?_cons, List.find?_cons, (upd_vb a).1]
    cases decide (a.v = v')
    · exact ih
    · simp only [Option.map_some, (upd_vb a).2]
theorem MM.one (h : MM w lo bm al) (he : e ∈ al) (hm : MapV w' e.b (e.us ++ [u])) (hg : w.grownBy w' (some e.b)) : MM w' lo bm (upd al e.v u) := by
  have hbm := h.lt
  obtain ⟨⟨D, n, a1, a2, a3, a4⟩, h2, h3, h4⟩ := h
  have hkeep : ∀ q, q < w.heap.size → q ≠ e.b → w'.heap[q]? = w.heap[q]? := fun q h1 h2 => hg.block q h1 (fun e2 => h2 (Option.some.inj e2))
  refine ⟨⟨D, n, owns_congr (hkeep bm hbm (Ne.symm (h3 e he).2.2.2)) a1, by unfold upd; rw [List.length_map]; exact a2, fun v kl z hk => ?_, fun kl hh => ?_⟩, h2, fun x hx => ?_, ?_⟩
  · rw [a3 v kl z hk]
    unfold atA
    have hfu := fnd_upd (al := al) (v := e.v) (u := u) v
    cases h5 : fnd al v <;> cases h6 : fnd (upd al e.v u) v <;> rw [h5, h6] at hfu <;> simp at hfu <;> simp [hfu]
  · obtain ⟨x, hx, hx2⟩ := a4 kl hh
    refine ⟨_, List.mem_map.2 ⟨x, hx, rfl⟩, ?_⟩
    rw [(upd_vb x).1]
    exact hx2
  · unfold upd at hx
    obtain ⟨y, hy, rfl⟩ := List.mem_map.1 hx
    obtain ⟨q1, q2, q3, q4⟩ := h3 y hy
    by_cases ey : y.v = e.v
    · have := (ap_eq h4 hy he).1 ey
      subst this
      rw [if_pos rfl]
      exact ⟨q1, hm, q3, q4⟩
    · rw [if_neg ey]
      have hb : y.b ≠ e.b := fun e2 => ey (by rw [(ap_eq h4 hy he).2 e2])
      exact ⟨q1, q2.congr (hkeep y.b q2.lt hb), q3, q4⟩
  · unfold upd
    rw [List.pairwise_map]
    refine h4.imp ?_
    intro a b ⟨h5, h6⟩
    rw [(upd_vb a).1, (upd_vb b).1, (upd_vb a).2, (upd_vb b).2]
    exact ⟨h5, h6⟩
end
structure RgM (w : World) (lo bm : Nat) (al : List Ae) (r : Nat) (D : DataW Unit) (n : Nat) (left : Lit → Bool) (cnt : Nat) : Prop where
  mm : MM w lo bm al
  out : OutM w bm al D n
  rg : w.ranges Try.prog 130 RB bm r n D left cnt
  hr : lo ≤ r
theorem ranges_congr {w w' : World} {b r n : Nat} {D : DataW Unit} {left : Lit → Bool} {cnt : Nat} (h : w.ranges Try.prog 130 RB b r n D left cnt) (e1 : w'.heap[b]? = w.heap[b]?) (e2 : w'.heap[r]? = w.heap[r]?) : w'.ranges Try.prog 130 RB b r n D left cnt := by
  obtain ⟨es, clock, since, seen, c0, hb, F, hs, hD, hr, rest⟩ := h
  exact ⟨es, clock, since, seen, c0, e1.trans hb, F, hs, hD, e2.trans hr, rest⟩
theorem ranges_cell {w : World} {b r n : Nat} {D : DataW Unit} {left : Lit → Bool} {cnt : Nat} (h : w.ranges Try.prog 130 RB b r n D left cnt) {g : Nat} {t : TypeId} {us : List Value} (hg : Blk w g t us) : g ≠ r := fun e => by
  subst e
  obtain ⟨es, clock, since, seen, c0, hb, F, hs, hD, hr, rest⟩ := h
  unfold Blk at hg
  rw [hg] at hr
  cases hr
theorem ranges_map {w : World} {b r n : Nat} {D : DataW Unit} {left : Lit → Bool} {cnt : Nat} (h : w.ranges Try.prog 130 RB b r n D left cnt) {g : Nat} (hg : IsM w g) : g ≠ r := fun e => by
  subst e
  obtain ⟨es', c', hg⟩ := hg
  obtain ⟨es, clock, since, seen, c0, hb, F, hs, hD, hr, rest⟩ := h
  rw [hg] at hr
  cases hr
section
variable {w w' : World} {lo bm r n : Nat} {al : List Ae} {D : DataW Unit} {left : Lit → Bool} {cnt : Nat}
theorem RgM.lt (h : RgM w lo bm al r D n left cnt) : bm < w.heap.size := h.mm.lt
theorem RgM.to (h : RgM w lo bm al r D n left cnt) (hb : Below w.heap.size w w') : RgM w' lo bm al r D n left cnt :=
  ⟨h.mm.to hb, ⟨owns_congr (hb.block bm h.mm.lt) h.out.1, h.out.2⟩, ranges_congr h.rg (hb.block bm h.mm.lt) (hb.block r h.rg.lt), h.hr⟩
theorem RgM.putB (h : RgM w lo bm al r D n left cnt) {g o : Nat} {t : TypeId} {us vs : List Value} (hg : Blk w g t us) : RgM (putL w g o vs) lo bm al r D n left cnt := by
  have e1 := putL_heap (Ne.symm (isM_ne h.mm.isM hg)) vs w o
  exact ⟨h.mm.putB hg, ⟨owns_congr e1 h.out.1, h.out.2⟩, ranges_congr h.rg e1 (putL_heap (Ne.symm (ranges_cell h.rg hg)) vs w o), h.hr⟩
theorem RgM.next (h : RgM w lo bm al r D n left cnt) {left' : Lit → Bool} {cnt' : Nat} (hg : w.grownBy w' (some r)) (hn : w'.ranges Try.prog 130 RB bm r n D left' cnt') : RgM w' lo bm al r D n left' cnt' := by
  have e0 := ranges_map h.rg h.mm.isM
  have m := h.mm.grown hg e0 (fun e he => ranges_map h.rg (h.mm.inn e he).2.1.isM)
  exact ⟨m, ⟨owns_congr (hg.block bm h.mm.lt (fun e2 => e0 (Option.some.inj e2))) h.out.1, h.out.2⟩, hn, h.hr⟩
theorem RgM.entry (h : RgM w lo bm al r D n left cnt) {kl : Lit} {c : Option Nat} {y : DataW Unit × List MemPlace} (hy : RB (.map c) = some y) (hat : ∀ z, D.atKey kl z = y.1) : ∃ e ∈ al, keyV e.v = some kl ∧ c = some e.b := by
  obtain ⟨e, he, hk⟩ := h.out.2.2.2 kl (Maps.has_true_of_atKey hat)
  have h1 := h.out.2.2.1 e.v kl .nil hk
  unfold atA at h1
  rw [fnd_mem h.mm.ap he, hat] at h1
  obtain ⟨c', hc, hz⟩ := RB_inv hy
  injection hc with hc
  subst hc
  rw [hz] at h1
  refine ⟨e, he, hk, ?_⟩
  cases c with
  | none => cases h1
  | some q =>
    have hc2 : (DataW.lit (.int .i64 (q : Int)) : DataW Unit) = .lit (.int .i64 (e.b : Int)) := h1
    simp only [DataW.lit.injEq, Lit.int.injEq, true_and] at hc2
    have : q = e.b := by omega
    rw [this]
end
def RMet (al : List Ae) (Q : Ae → Prop) (left : Lit → Bool) (m : Bool) : Prop := (m = true → ∃ e ∈ al, Q e) ∧ ∀ e ∈ al, ∀ kl, keyV e.v = some kl → left kl = false → Q e → m = true
section
variable {w : World} {lo bm n : Nat} {al : List Ae} {D : DataW Unit} {left : Lit → Bool} {Q : Ae → Prop} {e : Ae} {kl : Lit} {b : Bool}
theorem RMet.start (hm : MM w lo bm al) (ho : OutM w bm al D n) : RMet al Q (Maps.has D) false := ⟨fun h => (by cases h), fun e he kl hk hl _ => by
  have h1 : ∀ z, D.atKey kl z = .lit (.int .i64 (e.b : Int)) := fun z => by
    rw [ho.2.2.1 e.v kl z hk]
    unfold atA
    rw [fnd_mem hm.ap he]
  rw [Maps.has_true_of_atKey h1] at hl
  cases hl⟩
theorem RMet.keep (h : RMet al Q left true) {left' : Lit → Bool} : RMet al Q left' true := ⟨h.1, fun _ _ _ _ _ _ => rfl⟩
theorem RMet.or_ (h : RMet al Q left false) (hm : MM w lo bm al) (he : e ∈ al) (hk : keyV e.v = some kl) (hb : b = true ↔ Q e) : RMet al Q (fun z => left z && !z.sameKey kl) b := by
  refine ⟨fun h1 => ⟨e, he, hb.1 h1⟩, fun x hx nl hn hl hq => ?_⟩
  rcases Bool.and_eq_false_iff.1 hl with h1 | h1
  · have := h.2 x hx nl hn h1 hq
    cases this
  · have h2 : nl.sameKey kl = true := by simpa using h1
    have h3 : nl = kl := by
      by_cases e2 : nl = kl
      · exact e2
      · rw [Maps.sameKey_ne e2] at h2
        cases h2
    subst h3
    have := (ap_eq hm.ap hx he).1 (keyV_inj hn hk)
    subst this
    exact hb.2 hq
theorem RMet.done (h : RMet al Q left b) (hm : MM w lo bm al) (hl : ∀ kl, left kl = false) : b = bP (∃ e ∈ al, Q e) :=
  bP_of ⟨h.1, fun ⟨e, he, hq⟩ => let ⟨kl, hk⟩ := (hm.inn e he).1; h.2 e he kl hk (hl kl) hq⟩
end
end Go.Proofs.Ytddbmckbankmeaa
