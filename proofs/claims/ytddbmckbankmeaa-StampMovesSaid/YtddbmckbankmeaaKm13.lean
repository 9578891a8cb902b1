/- Part 13 of the texts behind this claim. -/
import Derived.Maps.RangeWalk
import Derived.Deep.AppendLies
import Derived.Test.YtddbmckbankmeaaKm1
import Derived.Test.YtddbmckbankmeaaKm10
import Derived.Test.YtddbmckbankmeaaKm11
import Derived.Test.YtddbmckbankmeaaKm12
set_option linter.unusedVariables false
set_option linter.unusedSimpArgs false
namespace Go.Proofs.Ytddbmckbankmeaa
open Go.RowKit Go.ChangeShapes Go.WideShapes Go.ChangeAt Go.WideMaps Go.Joins
open Go.Maps (Keyed)
theorem rowV : (130 : TypeId) < Try.prog.types.size := of_decide_eq_true (by kernel_rfl)
theorem wideV : (match Try.prog.underlying 130 with | some (.array _ _) | some (.struct _) => true | _ => false) = true := by kernel_rfl
set_option maxRecDepth 100000 in
theorem lawV : KeyLaw Try.prog 130 := deep_law_laid laidM (m := 3) (by omega) rowV (by kernel_rfl) wideV
theorem keyedV : Keyed Try.prog 130 := Keyed.of_law lawV
def vvv (v : Int × Int) : Value := .agg #[.int .i64 v.1, .int .i64 v.2]
noncomputable def keyV (v : Int × Int) : Option Lit := keyOf Try.prog 130 (vvv v)
theorem vvv_inj {m n : Int × Int} (h : vvv m = vvv n) : m = n := by
  obtain ⟨x, y⟩ := m
  obtain ⟨x', y'⟩ := n
  simp [vvv] at h
  simp [h]
theorem keyV_inj {u v : Int × Int} {kl : Lit} (h : keyV u = some kl) (h' : keyV v = some kl) : u = v := vvv_inj (keyedV.inj h h')
def memV (u : Int × Int) (us : List (Int × Int)) : Bool := us.any (fun x => x.1 == u.1 && x.2 == u.2)
theorem memV_iff {u : Int × Int} {us : List (Int × Int)} : memV u us = true ↔ u ∈ us := by
  unfold memV
  rw [List.any_eq_true]
  constructor
  · rintro ⟨x, h1, h2⟩
    simp only [Bool.and_eq_true, beq_iff_eq] at h2
    have : x = u := Prod.ext h2.1 h2.2
    rwa [this] at h1
  intro h
  exact ⟨u, h, by simp⟩
def MapV (w : World) (b : Nat) (us : List (Int × Int)) : Prop := ∃ D : DataW Unit, w.ownsMap Try.prog 130 (plainElem Try.prog 4) b us.length D ∧ ∀ u kl, keyV u = some kl → D.atKey kl (.lit (.bool false)) = .lit (.bool (memV u us))
theorem owns_congr {k : TypeId} {R : Value → Option (DataW Unit × List MemPlace)} {w w' : World} {b n : Nat} {D : DataW Unit} (e : w'.heap[b]? = w.heap[b]?) (h : w.ownsMap Try.prog k R b n D) : w'.ownsMap Try.prog k R b n D := by
  obtain ⟨es, clock, hb, r⟩ := h
  exact ⟨es, clock, e.trans hb, r⟩
def IsM (w : World) (b : Nat) : Prop := ∃ es clock, w.heap[b]? = some (.map es clock)
theorem owns_isM {k : TypeId} {R : Value → Option (DataW Unit × List MemPlace)} {w : World} {b n : Nat} {D : DataW Unit} (h : w.ownsMap Try.prog k R b n D) : IsM w b := by
  obtain ⟨es, clock, hb, _⟩ := h
  exact ⟨es, clock, hb⟩
theorem isM_ne {w : World} {b g : Nat} {t : TypeId} {us : List Value} (h : IsM w b) (hg : Blk w g t us) : g ≠ b := fun e => by
  subst e
  obtain ⟨es, clock, hb⟩ := h
  unfold Blk at hg
  rw [hg] at hb
  cases hb
theorem putL_heap {g i : Nat} (hne : i ≠ g) : ∀ (vs : List Value) (w : World) (o : Nat), (putL w g o vs).heap[i]? = w.heap[i]?
  | [], _, _ => rfl
  | v :: vs, w, o => (putL_heap hne vs _ (o + 1)).trans (Below.heap_setCell w ⟨g, o, none⟩ v i hne)
section
variable {w w' : World} {b : Nat} {us : List (Int × Int)} {u : Int × Int}
theorem MapV.congr (h : MapV w b us) (e : w'.heap[b]? = w.heap[b]?) : MapV w' b us := by
  obtain ⟨D, h1, h2⟩ := h
  exact ⟨D, owns_congr e h1, h2⟩
theorem MapV.isM (h : MapV w b us) : IsM w b := by
  obtain ⟨D, h1, _⟩ := h
  exact owns_isM h1
theorem MapV.lt (h : MapV w b us) : b < w.heap.size := by
  obtain ⟨D, h1, _⟩ := h
  exact h1.lt
theorem MapV.to (h : MapV w b us) (hb : Below w.heap.size w w') : MapV w' b us := h.congr (hb.block b h.lt)
theorem MapV.look (h : MapV w b us) {kl : Lit} (hk : keyV u = some kl) : (Instr.lookup 133 (.map (some b)) (vvv u) false).run Try.prog w = .ok (.bool (memV u us)) w := by
  obtain ⟨D, h1, h2⟩ := h
  obtain ⟨v, ps, hrun, hv⟩ := h1.lookup keyedV Try.underlying133 (zeroBool w) (plainElem_bool Try.underlying4 false) hk
  obtain ⟨c, rfl, hc⟩ := plainElem_bool_inv Try.underlying4 hv
  rw [h2 u kl hk] at hc
  simp only [Prod.mk.injEq, DataW.lit.injEq, Lit.bool.injEq] at hc
  rw [hrun, hc.1]
theorem MapV.store (h : MapV w b us) {kl : Lit} (hk : keyV u = some kl) (hn : us.length < maxLen) : ∃ w', (Instr.mapUpdate 133 (.map (some b)) (vvv u) (.bool true)).run Try.prog w = .ok () w' ∧ MapV w' b (us ++ [u]) ∧ w.grownBy w' (some b) := by
  obtain ⟨D, h1, h2⟩ := h
  obtain ⟨w', r1, r2, r3⟩ := h1.update keyedV Try.underlying133 hn hk (plainElem_bool Try.underlying4 true)
  refine ⟨w', r1, ⟨D.put kl (.lit (.bool true)), by rw [List.length_append]; exact r2, fun n nl hnk => ?_⟩, r3⟩
  by_cases e : nl = kl
  · subst e
    have := keyV_inj hnk hk
    subst this
    rw [Maps.atKey_put_same h1.isMap (keyedV.key hk)]
    rw [show memV n (us ++ [n]) = true from memV_iff.2 (by simp)]
  rw [Maps.atKey_put_other e, h2 n nl hnk]
  have hne : n ≠ u := fun e2 => by
    subst e2
    rw [hnk] at hk
    exact e (Option.some.inj hk)
  have : memV n (us ++ [u]) = memV n us := by
    have h3 : memV n (us ++ [u]) = true ↔ memV n us = true := by
      rw [memV_iff, memV_iff, List.mem_append, List.mem_singleton]
      exact ⟨fun h => h.elim (fun h => h) (fun h => absurd h hne), .inl⟩
    cases h4 : memV n us
    · cases h5 : memV n (us ++ [u])
      · rfl
      rw [h3.1 h5] at h4
      cases h4
    exact h3.2 h4
  rw [this]
end
structure Ae where
  v : Int × Int
  b : Nat
  us : List (Int × Int)
def fnd (al : List Ae) (v : Int × Int) : Option Ae := al.find? (fun e => decide (e.v = v))
def RB (v : Value) : Option (DataW Unit × List MemPlace) := match v with | .map (some b) => some (.lit (.int .i64 (b : Int)), []) | .map none => some (.nil, []) | _ => none
theorem RB_inv {v : Value} {z : DataW Unit × List MemPlace} (h : RB v = some z) : ∃ c : Option Nat, v = .map c ∧ z = ((match c with | some b => .lit (.int .i64 (b : Int)) | none => .nil), []) := by
  unfold RB at h
  split at h
  · injection h with h
    exact ⟨some _, rfl, h.symm⟩
  · injection h with h
    exact ⟨none, rfl, h.symm⟩
  cases h
def atA (al : List Ae) (v : Int × Int) (z : DataW Unit) : DataW Unit := match fnd al v with | some e => .lit (.int .i64 (e.b : Int)) | none => z
def OutM (w : World) (bm : Nat) (al : List Ae) (D : DataW Unit) (n : Nat) : Prop := w.ownsMap Try.prog 130 RB bm n D ∧ n ≤ al.length ∧ (∀ v kl z, keyV v = some kl → D.atKey kl z = atA al v z) ∧ ∀ kl, Maps.has D kl = true → ∃ e ∈ al, keyV e.v = some kl
structure MM (w : World) (lo bm : Nat) (al : List Ae) : Prop where
  out : ∃ D n, OutM w bm al D n
  hlo : lo ≤ bm
  inn : ∀ e ∈ al, (∃ kl, keyV e.v = some kl) ∧ MapV w e.b e.us ∧ lo ≤ e.b ∧ e.b ≠ bm
  ap : al.Pairwise (fun e e' => e.v ≠ e'.v ∧ e.b ≠ e'.b)
section
variable {w w' : World} {lo bm b r : Nat} {al : List Ae} {e e' : Ae} {u v : Int × Int}
theorem ap_eq (h : al.Pairwise (fun e e' => e.v ≠ e'.v ∧ e.b ≠ e'.b)) (he : e ∈ al) (he' : e' ∈ al) : (e.v = e'.v → e = e') ∧ (e.b = e'.b → e = e') := by
  induction al with
  | nil => cases he
  | cons a l ih =>
    rw [List.pairwise_cons] at h
    rcases List.mem_cons.1 he with e1 | h1
    · rcases List.mem_cons.1 he' with e2 | h2
      · exact ⟨fun _ => e1.trans e2.symm, fun _ => e1.trans e2.symm⟩
      rw [e1]
      exact ⟨fun h3 => absurd h3 (h.1 e' h2).1, fun h3 => absurd h3 (h.1 e' h2).2⟩
    rcases List.mem_cons.1 he' with e2 | h2
    · rw [e2]
      exact ⟨fun h3 => absurd h3.symm (h.1 e h1).1, fun h3 => absurd h3.symm (h.1 e h1).2⟩
    exact ih h.2 h1 h2
theorem fnd_some (h : fnd al v = some e) : e ∈ al ∧ e.v = v := ⟨List.mem_of_find?_eq_some h, by simpa using List.find?_some h⟩
theorem fnd_none (h : fnd al v = none) : ∀ e ∈ al, e.v ≠ v := fun e he => by simpa using List.find?_eq_none.1 h e he
theorem fnd_mem (ha : al.Pairwise (fun e e' => e.v ≠ e'.v ∧ e.b ≠ e'.b)) (he : e ∈ al) : fnd al e.v = some e := by
  cases h : fnd al e.v with
  | none => exact absurd rfl (fnd_none h e he)
  | some x =>
    obtain ⟨h1, h2⟩ := fnd_some h
    rw [(ap_eq ha h1 he).1 h2]
theorem MM.congr (h : MM w lo bm al) (h0 : w'.heap[bm]? = w.heap[bm]?) (h1 : ∀ e ∈ al, w'.heap[e.b]? = w.heap[e.b]?) : MM w' lo bm al := by
  obtain ⟨⟨D, n, a1, a2⟩, h2, h3, h4⟩ := h
  exact ⟨⟨D, n, owns_congr h0 a1, a2⟩, h2, fun e he => ⟨(h3 e he).1, (h3 e he).2.1.congr (h1 e he), (h3 e he).2.2⟩, h4⟩
theorem MM.isM (h : MM w lo bm al) : IsM w bm := by
  obtain ⟨⟨D, n, a1, a2⟩, _⟩ := h
  exact owns_isM a1
theorem MM.lt (h : MM w lo bm al) : bm < w.heap.size := by
  obtain ⟨⟨D, n, a1, a2⟩, _⟩ := h
  exact a1.lt
theorem MM.to (h : MM w lo bm al) (hb : Below w.heap.size w w') : MM w' lo bm al := h.congr (hb.block bm h.lt) (fun e he => hb.block e.b (h.inn e he).2.1.lt)
theorem MM.putB (h : MM w lo bm al) {g o : Nat} {t : TypeId} {us vs : List Value} (hg : Blk w g t us) : MM (putL w g o vs) lo bm al :=
  h.congr (putL_heap (Ne.symm (isM_ne h.isM hg)) vs w o) (fun e he => putL_heap (Ne.symm (isM_ne (h.inn e he).2.1.isM hg)) vs w o)
theorem MM.grown (h : MM w lo bm al) (hg : w.grownBy w' (some r)) (h0 : bm ≠ r) (h1 : ∀ e ∈ al, e.b ≠ r) : MM w' lo bm al :=
  h.congr (hg.block bm h.lt (fun e2 => h0 (Option.some.inj e2))) (fun e he => hg.block e.b (h.inn e he).2.1.lt (fun e2 => h1 e he (Option.some.inj e2)))
theorem zeroMap (w : World) : (zeroValue 133).run Try.prog w = .ok (.map none) w := by kernel_rfl
theorem MM.look (h : MM w lo bm al) {kl : Lit} (hk : keyV v = some kl) : (Instr.lookup 127 (.map (some bm)) (vvv v) false).run Try.prog w = .ok (.map ((fnd al v).map Ae.b)) w := by
  obtain ⟨⟨D, n, a1, a2, a3, a4⟩, _⟩ := h
  obtain ⟨x, ps, hrun, hv⟩ := a1.lookup keyedV Try.underlying127 (zeroMap w) (zd := .nil) (zp := []) rfl hk
  obtain ⟨c, rfl, hc⟩ := RB_inv hv
  rw [a3 v kl _ hk] at hc
  have hc1 := congrArg Prod.fst hc
  simp only at hc1
  rw [hrun]
  unfold atA at hc1
  cases hf : fnd al v with
  | none =>
    rw [hf] at hc1
    cases c with
    | none => rfl
    | some q => cases hc1
  | some e =>
    rw [hf] at hc1
    cases c with
    | none => cases hc1
    | some q =>
      have hc2 : (DataW.lit (.int .i64 (e.b : Int)) : DataW Unit) = .lit (.int .i64 (q : Int)) := hc1
      simp only [DataW.lit.injEq, Lit.int.injEq, true_and] at hc2
      have : q = e.b := by omega
      subst this
      rfl
theorem MM.store (h : MM w lo bm al) {kl : Lit} (hk : keyV v = some kl) (hf : fnd al v = none) (hm : MapV w b []) (hlo : lo ≤ b) (hb : b ≠ bm) (hbe : ∀ e ∈ al, e.b ≠ b) (hn : al.length < maxLen) :
    ∃ w', (Instr.mapUpdate 127 (.map (some bm)) (vvv v) (.map (some b))).run Try.prog w = .ok () w' ∧ MM w' lo bm (al ++ [⟨v, b, []⟩]) ∧ w.grownBy w' (some bm) := by
  have hbm := h.lt
  obtain ⟨⟨D, n, a1, a2, a3, a4⟩, h2, h3, h4⟩ := h
  obtain ⟨w', r1, r2, r3⟩ := a1.update keyedV Try.underlying127 (Nat.lt_of_le_of_lt a2 hn) hk (show RB (.map (some b)) = some (.lit (.int .i64 (b : Int)), []) from rfl)
  have hkeep : ∀ q, q < w.heap.size → q ≠ bm → w'.heap[q]? = w.heap[q]? := fun q h1 h2 => r3.block q h1 (fun e2 => h2 (Option.some.inj e2))
  refine ⟨w', r1, ⟨⟨_, _, r2, by rw [List.length_append]; exact Nat.succ_le_succ a2, fun x nl z hx => ?_, fun nl hh => ?_⟩, h2, fun e he => ?_, ?_⟩, r3⟩
  · unfold atA fnd
    rw [List.find?_append]
    by_cases e : nl = kl
    · subst e
      have := keyV_inj hx hk
      subst this
      rw [Maps.atKey_put_same a1.isMap (keyedV.key hk)]
      rw [show al.find? (fun e => decide (e.v = x)) = none from hf]
      simp
    rw [Maps.atKey_put_other e, a3 x nl z hx]
    have hne : v ≠ x := fun e2 => by
      subst e2
      rw [hx] at hk
      exact e (Option.some.inj hk)
    unfold atA fnd
    simp [hne]
  · by_cases e : nl = kl
    · subst e
      exact ⟨_, List.mem_append_right _ (List.mem_singleton.2 rfl), hk⟩
    rw [Maps.has_put_other e] at hh
    obtain ⟨x, hx, hx2⟩ := a4 nl hh
    exact ⟨x, List.mem_append_left _ hx, hx2⟩
  · rcases List.mem_append.1 he with he | he
    · obtain ⟨q1, q2, q3, q4⟩ := h3 e he
      exact ⟨q1, q2.congr (hkeep e.b q2.lt q4), q3, q4⟩
    rw [List.mem_singleton.1 he]
    exact ⟨⟨kl, hk⟩, hm.congr (hkeep b hm.lt hb), hlo, hb⟩
  rw [List.pairwise_append]
  refine ⟨h4, by simp, fun e he e' he' => ?_⟩
  rw [List.mem_singleton.1 he']
  exact ⟨fnd_none hf e he, hbe e he⟩
end
structure RgM (w : World) (lo bm : Nat) (al : List Ae) (r : Nat) (D : DataW Unit) (n : Nat) (left : Lit → Bool) (cnt : Nat) : Prop where
  mm : MM w lo bm al
  out : OutM w bm al D n
  rg : w.ranges Try.prog 130 RB bm r n D left cnt
  hr : lo ≤ r
theorem ranges_congr {w w' : World} {b r n : Nat} {D : DataW Unit} {left : Lit → Bool} {cnt : Nat} (h : w.ranges Try.prog 130 RB b r n D left cnt) (e1 : w'.heap[b]? = w.heap[b]?) (e2 : w'.heap[r]? = w.heap[r]?) : w'.ranges Try.prog 130 RB b r n D left cnt := by
  obtain ⟨es, clock, since, seen, c0, hb, F, hs, hD, hr, rest⟩ := h
  exact ⟨es, clock, since, seen, c0, e1.trans hb, F, hs, hD, e2.trans hr, rest⟩
theorem ranges_cell {w : World} {b r n : Nat} {D : DataW Unit} {left : Lit → Bool} {cnt : Nat} (h : w.ranges Try.prog 130 RB b r n D left cnt) {g : Nat} {t : TypeId} {us : List Value} (hg : Blk w g t us) : g ≠ r := fun e => by
  subst e
  obtain ⟨es, clock, since, seen, c0, hb, F, hs, hD, hr, rest⟩ := h
  unfold Blk at hg
  rw [hg] at hr
  cases hr
theorem ranges_map {w : World} {b r n : Nat} {D : DataW Unit} {left : Lit → Bool} {cnt : Nat} (h : w.ranges Try.prog 130 RB b r n D left cnt) {g : Nat} (hg : IsM w g) : g ≠ r := fun e => by
  subst e
  obtain ⟨es', c', hg⟩ := hg
  obtain ⟨es, clock, since, seen, c0, hb, F, hs, hD, hr, rest⟩ := h
  rw [hg] at hr
  cases hr
section
variable {w w' : World} {lo bm r n : Nat} {al : List Ae} {D : DataW Unit} {left : Lit → Bool} {cnt : Nat}
theorem RgM.lt (h : RgM w lo bm al r D n left cnt) : bm < w.heap.size := h.mm.lt
theorem RgM.to (h : RgM w lo bm al r D n left cnt) (hb : Below w.heap.size w w') : RgM w' lo bm al r D n left cnt :=
  ⟨h.mm.to hb, ⟨owns_congr (hb.block bm h.mm.lt) h.out.1, h.out.2⟩, ranges_congr h.rg (hb.block bm h.mm.lt) (hb.block r h.rg.lt), h.hr⟩
theorem RgM.putB (h : RgM w lo bm al r D n left cnt) {g o : Nat} {t : TypeId} {us vs : List Value} (hg : Blk w g t us) : RgM (putL w g o vs) lo bm al r D n left cnt := by
  have e1 := putL_heap (Ne.symm (isM_ne h.mm.isM hg)) vs w o
  exact ⟨h.mm.putB hg, ⟨owns_congr e1 h.out.1, h.out.2⟩, ranges_congr h.rg e1 (putL_heap (Ne.symm (ranges_cell h.rg hg)) vs w o), h.hr⟩
theorem RgM.next (h : RgM w lo bm al r D n left cnt) {left' : Lit → Bool} {cnt' : Nat} (hg : w.grownBy w' (some r)) (hn : w'.ranges Try.prog 130 RB bm r n D left' cnt') : RgM w' lo bm al r D n left' cnt' := by
  have e0 := ranges_map h.rg h.mm.isM
  have m := h.mm.grown hg e0 (fun e he => ranges_map h.rg (h.mm.inn e he).2.1.isM)
  exact ⟨m, ⟨owns_congr (hg.block bm h.mm.lt (fun e2 => e0 (Option.some.inj e2))) h.out.1, h.out.2⟩, hn, h.hr⟩
end
def RMet (al : List Ae) (Q : Ae → Prop) (left : Lit → Bool) (m : Bool) : Prop := (m = true → ∃ e ∈ al, Q e) ∧ ∀ e ∈ al, ∀ kl, keyV e.v = some kl → left kl = false → Q e → m = true
section
variable {w : World} {lo bm n : Nat} {al : List Ae} {D : DataW Unit} {left : Lit → Bool} {Q : Ae → Prop} {e : Ae} {kl : Lit} {b : Bool}
theorem RMet.start (hm : MM w lo bm al) (ho : OutM w bm al D n) : RMet al Q (Maps.has D) false := ⟨fun h => (by cases h), fun e he kl hk hl _ => by
  have h1 : ∀ z, D.atKey kl z = .lit (.int .i64 (e.b : Int)) := fun z => by
    rw [ho.2.2.1 e.v kl z hk]
    unfold atA
    rw [fnd_mem hm.ap he]
  rw [Maps.has_true_of_atKey h1] at hl
  cases hl⟩
theorem RMet.keep (h : RMet al Q left true) {left' : Lit → Bool} : RMet al Q left' true := ⟨h.1, fun _ _ _ _ _ _ => rfl⟩
theorem RMet.done (h : RMet al Q left b) (hm : MM w lo bm al) (hl : ∀ kl, left kl = false) : b = bP (∃ e ∈ al, Q e) :=
  bP_of ⟨h.1, fun ⟨e, he, hq⟩ => let ⟨kl, hk⟩ := (hm.inn e he).1; h.2 e he kl hk (hl kl) hq⟩
end
end Go.Proofs.Ytddbmckbankmeaa
set_option linter.unusedVariables false
set_option linter.unusedSimpArgs false
namespace Go.Proofs.Ytddbmckbankmeaa
open Go.RowKit Go.ChangeShapes Go.WideShapes Go.ChangeAt Go.WideMaps Go.Joins
open Go.Maps (Keyed)
def Pre (X Y E : Nat) (x y e : Int) : Prop := x < X ∨ (x = X ∧ (y < Y ∨ (y = Y ∧ e < E)))
def CovS (f : Int → Int → Int) (g : Bool) (k : Nat) (n : Int) (X Y E : Nat) (v u : Int × Int) : Prop := ∃ x y e, Win n x y e ∧ Pre X Y E x y e ∧ Sym f g k x y ∧ vP g n k (x + n * e) y = v ∧ uP g n k (x + n * e) y = u
structure Cov (f : Int → Int → Int) (g : Bool) (k : Nat) (n : Int) (al : List Ae) (X Y E : Nat) : Prop where
  hiff : ∀ v u, (∃ e ∈ al, e.v = v ∧ u ∈ e.us) ↔ CovS f g k n X Y E v u
  ne : ∀ e ∈ al, e.us ≠ []
  len : ∃ c : Nat, (c : Int) ≤ 60 * X + 2 * Y + E ∧ al.length ≤ c ∧ ∀ e ∈ al, e.us.length ≤ c
section
variable {f : Int → Int → Int} {g : Bool} {k : Nat} {n : Int} {X Y E X' Y' E' : Nat} {al : List Ae} {u v : Int × Int}
theorem covS_congr (h : ∀ x y e, Win n x y e → Sym f g k x y → (Pre X Y E x y e ↔ Pre X' Y' E' x y e)) : CovS f g k n X Y E v u ↔ CovS f g k n X' Y' E' v u := by
  constructor
  · rintro ⟨x, y, e, hw, hp, hs, h2⟩
    exact ⟨x, y, e, hw, (h x y e hw hs).1 hp, hs, h2⟩
  rintro ⟨x, y, e, hw, hp, hs, h2⟩
  exact ⟨x, y, e, hw, (h x y e hw hs).2 hp, hs, h2⟩
theorem Cov.move (h : Cov f g k n al X Y E) (hc : ∀ x y e, Win n x y e → Sym f g k x y → (Pre X Y E x y e ↔ Pre X' Y' E' x y e)) (hl : (60 * X + 2 * Y + E : Int) ≤ 60 * X' + 2 * Y' + E') : Cov f g k n al X' Y' E' :=
  ⟨fun v u => (h.hiff v u).trans (covS_congr hc), h.ne, let ⟨c, h1, h2⟩ := h.len; ⟨c, Int.le_trans h1 hl, h2⟩⟩
theorem Cov.start : Cov f g k n [] 0 0 0 := ⟨fun v u => ⟨fun ⟨e, he, _⟩ => (by cases he), fun ⟨x, y, e, hw, hp, _⟩ => (by unfold Win at hw; unfold Pre at hp; omega)⟩, fun e he => (by cases he), 0, by omega, by simp, fun e he => (by cases he)⟩
theorem Cov.skip (h : Cov f g k n al X Y 0) (hs : ¬ Sym f g k X Y) : Cov f g k n al X (Y + 1) 0 := h.move (fun x y e hw h1 => by
  unfold Win at hw
  unfold Pre
  by_cases e2 : x = X ∧ y = Y
  · rw [e2.1, e2.2] at h1
    exact absurd h1 hs
  constructor <;> intro h2 <;> omega) (by omega)
theorem Cov.next (h : Cov f g k n al X Y 2) : Cov f g k n al X (Y + 1) 0 := h.move (fun x y e hw h1 => by
  unfold Win at hw
  unfold Pre
  constructor <;> intro h2 <;> omega) (by omega)
theorem Cov.row (h : Cov f g k n al X Y 0) (hn : n ≤ 30) (hY : n ≤ Y) (hY2 : (Y : Int) ≤ n) : Cov f g k n al (X + 1) 0 0 := h.move (fun x y e hw h1 => by
  unfold Win at hw
  unfold Pre
  constructor <;> intro h2 <;> omega) (by omega)
theorem Cov.all (h : Cov f g k n al X 0 0) (hX : n ≤ X) (v u : Int × Int) : (∃ e ∈ al, e.v = v ∧ u ∈ e.us) ↔ ∃ x y e, Win n x y e ∧ Sym f g k x y ∧ vP g n k (x + n * e) y = v ∧ uP g n k (x + n * e) y = u := by
  rw [h.hiff]
  constructor
  · rintro ⟨x, y, e, hw, hp, h2⟩
    exact ⟨x, y, e, hw, h2⟩
  rintro ⟨x, y, e, hw, h2⟩
  exact ⟨x, y, e, hw, by unfold Win at hw; unfold Pre; omega, h2⟩
end
section
variable {Q : Exit → Act → World → Prop} {ops : Array Oper} {rest : List Oper} {o : Oper} {a : Act} {w : World} {d lo bm b : Nat} {x y z : Operand} {al : List Ae} {u v : Int × Int} {us : List (Int × Int)} {kl : Lit}
end
theorem Env.grownM {w w' : World} {b : Nat} {L : List Ent} (k : Env w L) (hg : w.grownBy w' (some b)) (hm : IsM w b) : Env w' L := Env.grown k hg (fun e he => isM_ne hm (k.mem he))
section
variable {Q : Exit → Act → World → Prop} {o : Oper} {a : Act} {w : World} {d g k n j : Nat} {x y z : Operand} {a0 b0 c0 d0 : Int} {A : Option Addr}
end
theorem MM.lower {w : World} {lo lo' bm : Nat} {al : List Ae} (h : MM w lo bm al) (hl : lo' ≤ lo) : MM w lo' bm al := ⟨h.out, Nat.le_trans hl h.hlo, fun e he => ⟨(h.inn e he).1, (h.inn e he).2.1, Nat.le_trans hl (h.inn e he).2.2.1, (h.inn e he).2.2.2⟩, h.ap⟩
end Go.Proofs.Ytddbmckbankmeaa
set_option linter.unusedVariables false
set_option linter.unusedSimpArgs false
namespace Go.Proofs.Ytddbmckbankmeaa
open Go.RowKit
def OwnI (lo : Nat) (w : World) (v : Value) (xs : List Int) : Prop := w.ownsRow lo 3 1 v xs.length (ints xs)
section
variable {lo g o : Nat} {w w' : World} {v : Value} {xs : List Int} {vs : List Value}
theorem OwnI.to (h : OwnI lo w v xs) (hb : Below w.heap.size w w') : OwnI lo w' v xs := own_to h hb
theorem OwnI.put (h : OwnI lo w v xs) (hlt : ∀ k, v.ownBlock = some k → k < g) : OwnI lo (putL w g o vs) v xs := own_put hlt h
theorem OwnI.lt (h : OwnI lo w v xs) : ∀ k, v.ownBlock = some k → lo ≤ k ∧ k < w.heap.size := World.ownsRow.lt h
theorem OwnI.lower {lo' : Nat} (h : lo ≤ lo') (ho : OwnI lo' w v xs) : OwnI lo w v xs := by
  refine ⟨ho.1, ?_⟩
  rcases ho.2 with hn | ⟨g', cap, cur, rfl, hb, hgg, rest⟩
  · exact .inl hn
  exact .inr ⟨g', cap, cur, rfl, by omega, hgg, rest⟩
theorem Env.grownBy_ {row : Option Nat} : ∀ {L : List Ent}, Env w L → w.grownBy w' row → (∀ e ∈ L, some e.g ≠ row) → Env w' L
  | [], _, _, _ => trivial
  | e :: L, ⟨h1, h2, h3⟩, hg, hne => ⟨(hg.block e.g h1.lt (hne e (List.mem_cons_self ..))).trans h1, h2, Env.grownBy_ h3 hg (fun e' he => hne e' (List.mem_cons_of_mem _ he))⟩
theorem Env.alloc_ (o : Obj) {L : List Ent} (h : Env w L) : Env (w.alloc o) L := h.to (below_alloc (Below.refl _ _) o)
end
end Go.Proofs.Ytddbmckbankmeaa
set_option linter.unusedVariables false
set_option linter.unusedSimpArgs false
namespace Go.Proofs.Ytddbmckbankmeaa
open Go.RowKit
theorem OwnI.cl {lo : Nat} {w : World} {v : Value} {xs : List Int} (h : OwnI lo w v xs) : ∃ A k, v = .slice A xs.length k ∧ RI w A xs ∧ (∀ ad, A = some ad → lo ≤ ad.block) ∧ xs.length ≤ k ∧ k ≤ 9223372036854775807 := by
  rcases h.2 with ⟨rfl, h0⟩ | ⟨g, cap, cur, rfl, hg, hh, hnc, hcm, hcs, htk⟩
  · have : xs = [] := List.eq_nil_of_length_eq_zero h0
    subst this
    exact ⟨none, 0, rfl, RI.nil _ _, (fun ad h => by cases h), Nat.le_refl _, by omega⟩
  refine ⟨some ⟨g, 0, none⟩, cap, rfl, fun _ => ⟨_, rfl, fun j hj => ?_⟩, (fun ad h => by rw [← Option.some.inj h]; exact hg), hnc, by unfold maxLen at hcm; omega⟩
  rw [addr_zero, cell_of_row w g j cur 3 (0, 0) hh, ← Array.getElem?_toList]
  have : cur.toList[j]? = (ints xs)[j]? := by
    rw [← htk, List.getElem?_take, if_pos (by omega)]
  rw [this, ints_get xs hj]
section
variable {Q : Exit → Act → World → Prop} {o : Oper} {a : Act} {w : World} {d : Nat} {x y z : Operand} {ad : Addr} {c lo : Nat} {v0 : Value} {xs ys : List Int} {R : Act → World → Prop}
end
def CellsI (w : World) (A : Option Addr) (ys : List Int) : Prop := RI w A ys ∧ ∀ ad, A = some ad → ∃ cur, w.heap[ad.block]? = some (.cells cur 3 (0, 0))
section
variable {w w' : World} {A : Option Addr} {ys : List Int} {lo : Nat} {k n : Nat}
theorem OwnI.ci (h : OwnI lo w (.slice A n k) ys) : CellsI w A ys := by
  refine ⟨?_, fun ad e => ?_⟩
  · obtain ⟨A', k', e, h1, _⟩ := OwnI.cl h
    injection e with e1 e2 e3
    rw [e1]
    exact h1
  rcases h.2 with ⟨e2, h0⟩ | ⟨g', cap, cur, e2, _, hh, _⟩
  · injection e2 with e3
    rw [e] at e3
    cases e3
  injection e2 with e3
  rw [e] at e3
  injection e3 with e3
  subst e3
  exact ⟨cur, hh⟩
theorem CellsI.to (h : CellsI w A ys) (hb : Below w.heap.size w w') : CellsI w' A ys := ⟨h.1.to hb, fun ad e => by
  obtain ⟨cur, hc⟩ := h.2 ad e
  have hlt : ad.block < w.heap.size := (Array.getElem?_eq_some_iff.1 hc).1
  exact ⟨cur, (hb.block _ hlt).trans hc⟩⟩
end
end Go.Proofs.Ytddbmckbankmeaa
set_option linter.unusedVariables false
set_option linter.unusedSimpArgs false
set_option linter.unusedSectionVars false
set_option linter.unnecessarySimpa false
namespace Go.Proofs.Ytddbmckbankmeaa
open Go.RowKit
section
variable {α : Type} [Inhabited α] {enc : α → List Value} {k g n : Nat} {t : TypeId} {w : World} {d d' : Array α} {rest : List Value} {os : Array Obj}
theorem flat_get (hk : ∀ x, (enc x).length = k) : ∀ (l : List α) (t : Nat), t < l.length * k → (l.flatMap enc)[t]? = some ((enc l[t / k]!)[t % k]!)
  | [], t, h => absurd h (by simp)
  | x :: l, t, h => by
    rw [List.flatMap_cons]
    have k0 : 0 < k := by
      rcases Nat.eq_zero_or_pos k with h0 | h0
      · subst h0; simp at h
      exact h0
    by_cases ht : t < k
    · rw [List.getElem?_append_left (by rw [hk]; exact ht), Nat.div_eq_of_lt ht, Nat.mod_eq_of_lt ht, List.getElem?_eq_getElem (by rw [hk]; exact ht)]
      simp [hk, ht]
    rw [List.getElem?_append_right (by rw [hk]; omega), hk, flat_get hk l (t - k) (by simp only [List.length_cons, Nat.add_mul, Nat.one_mul] at h; omega)]
    have e : t = t - k + k := by omega
    have e1 : t / k = (t - k) / k + 1 := by
      conv => lhs; rw [e]
      exact Nat.add_div_right _ k0
    have e2 : t % k = (t - k) % k := by
      conv => lhs; rw [e]
      exact Nat.add_mod_right _ _
    rw [e1, e2]
    simp
theorem flat_len (hk : ∀ x, (enc x).length = k) (l : List α) : (l.flatMap enc).length = l.length * k := by
  induction l with
  | nil => simp
  | cons x l ih => rw [List.flatMap_cons, List.length_append, ih, hk, List.length_cons, Nat.add_mul, Nat.one_mul]; omega
theorem bang (d : Array α) (i : Nat) : d.toList[i]! = d[i]! := Array.getElem!_toList
theorem holdsK_blk (hk : ∀ x, (enc x).length = k) (h : Blk w g t (d.toList.flatMap enc ++ rest)) : Go.Sort.HoldsK enc k w g 0 d := fun j hj => by
  rw [Go.Sort.size_flatK] at hj
  refine ⟨?_, h.frozen _⟩
  rw [Nat.zero_add, h.cell j, List.getElem?_append_left (by rw [flat_len hk]; simpa using hj), flat_get hk _ _ (by simpa using hj)]
  show _ = some (Go.Sort.flatK enc k d)[j]!
  rw [Go.Sort.get_flatK _ _ _ _ hj, bang d]
theorem sorted_blk (hk : ∀ x, (enc x).length = k) (h : Blk w g t (d.toList.flatMap enc ++ rest)) (hs : d'.size = d.size) : Blk (Go.Proofs.sortWorldK enc k w g 0 n d' os) g t (d'.toList.flatMap enc ++ rest) := by
  have hlt := h.lt
  have h' : w.heap[g]? = some (.cells (d.toList.flatMap enc ++ rest).toArray t (0, 0)) := h
  unfold Go.Proofs.sortWorldK Go.Sort.putRowK Go.Sort.putRow Go.Sort.mapBlock Go.Sort.grow Go.Sort.ahead Blk
  simp only
  rw [Array.getElem?_append_left (by simpa using hlt), Array.getElem?_modify, if_pos rfl, h', Option.map_some]
  unfold Go.Sort.onCells
  simp only
  congr 2
  apply Array.ext'
  unfold Go.Sort.putCells
  simp only [Array.toList_mapIdx]
  refine List.ext_getElem? fun q => ?_
  rw [List.getElem?_mapIdx, Go.Sort.size_flatK]
  by_cases hq : q < d'.size * k
  · rw [List.getElem?_append_left (by rw [flat_len hk]; simpa [← hs] using hq), List.getElem?_append_left (by rw [flat_len hk]; simpa using hq), flat_get hk _ _ (by simpa [← hs] using hq), flat_get hk _ _ (by simpa using hq), Option.map_some, if_pos ⟨by omega, by omega⟩, Nat.sub_zero, Go.Sort.get_flatK _ _ _ _ hq, bang d']
    rfl
  have hl : (d.toList.flatMap enc).length = (d'.toList.flatMap enc).length := by rw [flat_len hk, flat_len hk]; simp [hs]
  rw [List.getElem?_append_right (by rw [flat_len hk]; simpa [← hs] using hq), List.getElem?_append_right (by rw [flat_len hk]; simpa using hq), hl]
  cases rest[q - (d'.toList.flatMap enc).length]? with
  | none => rfl
  | some u => rw [Option.map_some, if_neg (by omega)]
theorem grownBy_sortK : w.grownBy (Go.Proofs.sortWorldK enc k w g 0 n d' os) (some g) := by
  unfold Go.Proofs.sortWorldK Go.Sort.putRowK Go.Sort.putRow Go.Sort.mapBlock Go.Sort.grow Go.Sort.ahead
  refine ⟨rfl, rfl, rfl, by simp, fun q hq hne => ?_⟩
  simp only
  rw [Array.getElem?_append_left (by simpa using hq), Array.getElem?_modify, if_neg (fun e => hne (by rw [e]))]
end
theorem cmpI_neg (x y : Int) : cmpI y x = - cmpI x y := by unfold cmpI; split <;> split <;> first | omega | (split <;> omega)
theorem swo_of {α : Type} [Inhabited α] (cf : α → α → Int) (hn : ∀ x y, cf y x = - cf x y) (hz : ∀ x y z, cf x y = 0 → cf x z = cf y z ∧ cf z x = cf z y) (ht : ∀ x y z, cf x y < 0 → cf y z < 0 → cf x z < 0) : Go.Sort.SWO (ltOf cf) where
  irrefl x := by have := hn x x; unfold ltOf; simp; omega
  trans x y z h k := by unfold ltOf at *; simp at *; exact ht x y z h k
  ntrans x y z h k := by
    unfold ltOf at *
    simp at *
    by_cases h1 : cf x y = 0
    · rw [(hz x y z h1).1]; exact k
    by_cases h2 : cf y z = 0
    · rw [← (hz y z x h2).2]; exact h
    have := ht z y x (by rw [hn y z]; omega) (by rw [hn x y]; omega)
    rw [hn x z] at this
    omega
theorem ord_neg (a b : Mv) : ordM b a = - ordM a b := by
  unfold ordM
  have a1 := cmpI_neg a.t b.t
  have a2 := cmpI_neg a.x b.x
  have a3 := cmpI_neg a.y b.y
  have orl : ∀ (l m : List Int), m = l.map (fun x => -x) → orL m = - orL l := by
    intro l
    induction l with
    | nil => rintro m rfl; rfl
    | cons x l ih =>
      rintro m rfl
      rw [List.map_cons, orL, orL, ih _ rfl]
      by_cases h : x = 0
      · rw [if_pos h, if_pos (by omega)]
      rw [if_neg h, if_neg (by omega)]
  refine orl _ _ ?_
  simp only [List.map_cons, List.map_nil, a1, a2, a3]
  congr 1
  cases a.f <;> cases b.f <;> simp
theorem ord_zero {a b : Mv} (h : ordM a b = 0) : a = b := by
  have h1 := ord_lt a b
  have h2 := ord_lt b a
  rw [ord_neg a b, h] at h2
  rw [h] at h1
  obtain ⟨ax, ay, at_, af⟩ := a
  obtain ⟨bx, by_, bt, bf⟩ := b
  simp only at h1 h2
  cases af <;> cases bf <;> simp at h1 h2 ⊢ <;> omega
theorem ord_trans {a b c : Mv} (h : ordM a b < 0) (k : ordM b c < 0) : ordM a c < 0 := by
  rw [ord_lt] at *
  obtain ⟨ax, ay, at_, af⟩ := a
  obtain ⟨bx, by_, bt, bf⟩ := b
  obtain ⟨cx, cy, ct, cf⟩ := c
  simp only at h k ⊢
  cases af <;> cases bf <;> cases cf <;> simp at h k ⊢ <;> omega
end Go.Proofs.Ytddbmckbankmeaa
set_option linter.unusedVariables false
set_option linter.unusedSimpArgs false
namespace Go.Proofs.Ytddbmckbankmeaa
open Go.RowKit
structure Sl where
  A : Option Addr
  k : Nat
  xs : List Int
instance : Inhabited Sl := ⟨⟨none, 0, []⟩⟩
def Sl.ok (w : World) (s : Sl) : Prop := CellsI w s.A s.xs ∧ s.xs.length ≤ 1000000
def encT (W H : Int) (s : Sl) : List Value := [.int .i64 W, .int .i64 H, .slice s.A s.xs.length s.k]
def encM (m : Mv) : List Value := [.int .i64 m.x, .int .i64 m.y, .int .i64 m.t, .bool m.f]
instance : Inhabited Mv := ⟨⟨0, 0, 0, false⟩⟩
theorem CellsI.ne {w : World} {A : Option Addr} {ys : List Int} {g : Nat} {t : TypeId} {us : List Value} (h : CellsI w A ys) (hb : Blk w g t us) (ht : t ≠ 3) : ∀ ad, A = some ad → ad.block ≠ g ∧ ad.block < w.heap.size := fun ad e => by
  obtain ⟨cur, hc⟩ := h.2 ad e
  have hlt : ad.block < w.heap.size := (Array.getElem?_eq_some_iff.1 hc).1
  refine ⟨fun e2 => ?_, hlt⟩
  rw [e2] at hc
  unfold Blk at hb
  rw [hb] at hc
  injection hc with hc
  injection hc with _ hc
  exact ht hc
theorem CellsI.by_ {w w' : World} {A : Option Addr} {ys : List Int} {g : Nat} (h : CellsI w A ys) (hg : w.grownBy w' (some g)) (hne : ∀ ad, A = some ad → ad.block ≠ g) : CellsI w' A ys := by
  have key : ∀ ad, A = some ad → w'.heap[ad.block]? = w.heap[ad.block]? := fun ad e => by
    obtain ⟨cur, hc⟩ := h.2 ad e
    exact hg.block _ (Array.getElem?_eq_some_iff.1 hc).1 (fun e2 => hne ad e (Option.some.inj e2))
  refine ⟨fun hn => ?_, fun ad e => ?_⟩
  · obtain ⟨ad, e, hc⟩ := h.1 hn
    refine ⟨ad, e, fun j hj => ?_⟩
    have hk : w'.cell? (ad.add j) = w.cell? (ad.add j) := World.cell?_of_block (by rw [block_of_add]; exact key ad e)
    rw [hk]
    exact hc j hj
  obtain ⟨cur, hc⟩ := h.2 ad e
  exact ⟨cur, (key ad e).trans hc⟩
section
variable {α : Type} [Inhabited α]
theorem perm_list {d d' : Array α} (h : Go.Sort.PermIn 0 d.size d d') : d'.toList.Perm d.toList := by
  have h2 := h.2.2
  have e1 : d.extract 0 d.size = d := by simp
  have e2 : d'.extract 0 d.size = d' := by rw [← h.1]; simp
  rw [e1, e2] at h2
  exact h2
theorem sorted_list {d d' : Array α} {lt : α → α → Bool} (h : Go.Sort.SortedIn lt 0 d.size d') (hs : d'.size = d.size) : d'.toList.Pairwise (fun a b => lt b a = false) := by
  rw [List.pairwise_iff_getElem]
  intro i j hi hj hij
  have h1 := h i j (Nat.zero_le _) hij (by simpa [hs] using hj)
  simp only [Array.length_toList] at hi hj
  rw [getElem!_pos _ i hi, getElem!_pos _ j hj] at h1
  simpa using h1
end
set_option maxRecDepth 100000 in
set_option maxHeartbeats 1000000 in
theorem sortM_calls (g cap : Nat) (ms : List Mv) (rest : List Value) (w : World) (hb : Blk w g 31 (mcells ms ++ rest)) (hl : ms.length ≤ 1000000) :
    Calls Try.prog 73 #[.slice (some ⟨g, 0, none⟩) ms.length cap, .func (.func 74) #[] #[]] w fun e w' => e = .returned (.tuple #[]) ∧
      ∃ ms' : List Mv, ms'.Perm ms ∧ ms'.Pairwise (fun a b => ordM a b ≤ 0) ∧ Blk w' g 31 (mcells ms' ++ rest) ∧ w.grownBy w' (some g) := by
  have hk : ∀ x : Mv, (encM x).length = 4 := fun _ => rfl
  have hB : Blk w g 31 (ms.toArray.toList.flatMap encM ++ rest) := hb
  have hO : Go.Sort.SWO (ltOf ordM) := swo_of _ ord_neg (fun x y z h => by rw [ord_zero h]; exact ⟨rfl, rfl⟩) (fun x y z h k => ord_trans h k)
  have hcmp : CmpLays Try.prog 74 #[] encM 4 ordM g 0 ms.toArray.size w := by
    intro m os dk hdk x y
    refine (byOrder_x x y _).mono ?_
    rintro e w' ⟨v, he, hbl, hv⟩
    exact ⟨by rw [he, show v = _ from hv], hbl.grow⟩
  have h := AnyQ.slices_SortFunc Try.sortM 4 Try.isAgg31 Try.sizeOf31 encM hk (fun x v hv => by
    unfold encM at hv
    simp at hv
    rcases hv with rfl | rfl | rfl | rfl <;> rfl) ordM hO 74 #[] g 0 cap ms.toArray w Try.call74 hcmp (holdsK_blk hk hB) hb.lt (by simp; omega)
  refine Calls.mono h ?_
  rintro e w' ⟨he, d', n, os, hp, hs, rfl⟩
  refine ⟨he, d'.toList, perm_list hp, ?_, sorted_blk hk hB hp.1, grownBy_sortK⟩
  refine (sorted_list hs hp.1).imp (fun {a b} h => ?_)
  unfold ltOf at h
  simp at h
  rw [ord_neg]
  omega
end Go.Proofs.Ytddbmckbankmeaa
set_option linter.unusedVariables false
set_option linter.unusedSimpArgs false
set_option linter.unusedSectionVars false
set_option linter.unnecessarySimpa false
namespace Go.Proofs.Ytddbmckbankmeaa
open Go.RowKit
section
variable {w w' : World} {g o : Nat} {t : TypeId} {W H : Int} {ts : List Sl} {rest cs us : List Value} {s : Sl} {j : Nat}
theorem encT_len (W H : Int) (s : Sl) : (encT W H s).length = 3 := rfl
theorem tcells_at : ∀ {ts : List Sl} {j : Nat} {s : Sl}, ts[j]? = some s → ∀ q, q < 3 → (ts.flatMap (encT W H) ++ rest)[j * 3 + q]? = (encT W H s)[q]?
  | [], _, _, h, _, _ => by cases h
  | a :: ts, 0, s, h, q, hq => by
    obtain rfl : a = s := by simpa using h
    rw [List.flatMap_cons, List.append_assoc, List.getElem?_append_left (by rw [encT_len]; omega), Nat.zero_mul, Nat.zero_add]
  | a :: ts, j + 1, s, h, q, hq => by
    have h' : ts[j]? = some s := by simpa using h
    rw [List.flatMap_cons, List.append_assoc, List.getElem?_append_right (by rw [encT_len]; omega), encT_len, show (j + 1) * 3 + q - 3 = j * 3 + q by omega]
    exact tcells_at h' q hq
theorem tcell_ld (h : Blk w g t (ts.flatMap (encT W H) ++ rest)) (hj : ts[j]? = some s) :
    w.cell? ⟨g, j * 3, none⟩ = some (.int .i64 W) ∧ w.cell? ⟨g, j * 3 + 1, none⟩ = some (.int .i64 H) ∧ w.cell? ⟨g, j * 3 + 2, none⟩ = some (.slice s.A s.xs.length s.k) := by
  rw [h.cell, h.cell, h.cell]
  exact ⟨tcells_at (W := W) (H := H) (rest := rest) hj 0 (by omega), tcells_at hj 1 (by omega), tcells_at hj 2 (by omega)⟩
theorem bel_grown {r : Option Nat} (k : Below w.heap.size w w') : w.grownBy w' r := ⟨k.os, k.tape, k.output, k.size, fun q hq _ => k.block q hq⟩
end
section
variable {Q : Exit → Act → World → Prop} {o : Oper} {a : Act} {w : World} {d g j n k i : Nat} {x y : Operand} {t : TypeId} {W H : Int} {ts : List Sl} {rest : List Value} {s : Sl}
end
end Go.Proofs.Ytddbmckbankmeaa
set_option linter.unusedVariables false
set_option linter.unusedSimpArgs false
set_option linter.unusedSectionVars false
set_option linter.unnecessarySimpa false
namespace Go.Proofs.Ytddbmckbankmeaa
open Go.RowKit
def xsn (ts : List Sl) (i : Nat) : List Int := (ts.getD i default).xs
def ddN (ts : List Sl) : Nat → List Sl
  | 0 => []
  | 1 => [ts.getD 0 default]
  | j + 2 => if xsn ts (j + 1) = xsn ts j then ddN ts (j + 1) else ddN ts (j + 1) ++ [ts.getD (j + 1) default]
theorem ddN_dup {ts : List Sl} {j : Nat} (hj : 1 ≤ j) (h : xsn ts j = xsn ts (j - 1)) : ddN ts (j + 1) = ddN ts j := by
  obtain ⟨j, rfl⟩ : ∃ q, j = q + 1 := ⟨j - 1, by omega⟩
  rw [ddN]
  exact if_pos h
theorem ddN_new {ts : List Sl} {j : Nat} (hj : 1 ≤ j) (h : xsn ts j ≠ xsn ts (j - 1)) : ddN ts (j + 1) = ddN ts j ++ [ts.getD j default] := by
  obtain ⟨j, rfl⟩ : ∃ q, j = q + 1 := ⟨j - 1, by omega⟩
  rw [ddN]
  exact if_neg h
theorem ddN_all {ts : List Sl} : ∀ {j : Nat}, j ≤ ts.length → (∀ i, 1 ≤ i → i < j → xsn ts i ≠ xsn ts (i - 1)) → ddN ts j = ts.take j
  | 0, _, _ => by simp [ddN]
  | 1, hl, _ => by
    cases ts with
    | nil => simp at hl
    | cons a l => simp [ddN]
  | j + 2, hl, h => by
    rw [ddN_new (j := j + 1) (by omega) (h (j + 1) (by omega) (by omega)), ddN_all (by omega) (fun i h1 h2 => h i h1 (by omega)), List.take_add_one (i := j + 1), List.getD_eq_getElem?_getD, List.getElem?_eq_getElem (by omega)]
    rfl
structure Ci (ts : List Sl) (j k : Nat) (cur : List Sl) : Prop where
  len : cur.length = ts.length
  low : cur.take k = ddN ts j
  num : k = (ddN ts j).length
  lt : k < j
  high : ∀ i, j ≤ i + 1 → cur[i]? = ts[i]?
theorem Ci.start {ts : List Sl} {k : Nat} (hk : k < ts.length) (hk1 : 1 ≤ k) (h : ∀ i, 1 ≤ i → i < k → xsn ts i ≠ xsn ts (i - 1)) (hd : xsn ts k = xsn ts (k - 1)) : Ci ts (k + 1) k ts := by
  have e := ddN_all (by omega) h
  refine ⟨rfl, by rw [ddN_dup hk1 hd, e], by rw [ddN_dup hk1 hd, e, List.length_take]; omega, by omega, fun _ _ => rfl⟩
theorem Ci.skip {ts cur : List Sl} {j k : Nat} (h : Ci ts j k cur) (hj : 1 ≤ j) (hd : xsn ts j = xsn ts (j - 1)) : Ci ts (j + 1) k cur :=
  ⟨h.len, by rw [ddN_dup hj hd]; exact h.low, by rw [ddN_dup hj hd]; exact h.num, by have := h.lt; omega, fun i hi => h.high i (by omega)⟩
theorem Ci.keep {ts cur : List Sl} {j k : Nat} {s : Sl} (h : Ci ts j k cur) (hj : 1 ≤ j) (hs : ts[j]? = some s) (hd : xsn ts j ≠ xsn ts (j - 1)) : Ci ts (j + 1) (k + 1) (cur.set k s) := by
  have hlt := h.lt
  have hjl : j < ts.length := (List.getElem?_eq_some_iff.1 hs).1
  have e : ts.getD j default = s := by rw [List.getD_eq_getElem?_getD, hs]; rfl
  refine ⟨by rw [List.length_set]; exact h.len, ?_, by rw [ddN_new hj hd, List.length_append, ← h.num]; rfl, by omega, fun i hi => by rw [List.getElem?_set_ne (by omega)]; exact h.high i (by omega)⟩
  rw [ddN_new hj hd, e, ← h.low, List.take_add_one, List.getElem?_set_self (by rw [h.len]; omega), List.take_set_of_le (Nat.le_refl _)]
  rfl
theorem Ci.done {ts cur : List Sl} {k : Nat} (h : Ci ts ts.length k cur) : cur = ddN ts ts.length ++ cur.drop k := by
  rw [← h.low, List.take_append_drop]
theorem Sl.ok.to {w w' : World} {s : Sl} (h : s.ok w) (hb : Below w.heap.size w w') : s.ok w' := ⟨h.1.to hb, h.2⟩
section
variable {P : Program} {Q : Exit → Act → World → Prop} {o : Oper} {a : Act} {w : World} {d : Nat} {R : Value → World → Prop} {f : Nat} {x1 x2 y : Operand} {ts : Array TypeId}
end
end Go.Proofs.Ytddbmckbankmeaa
set_option linter.unusedVariables false
set_option linter.unusedSimpArgs false
set_option linter.unusedSectionVars false
set_option linter.unnecessarySimpa false
namespace Go.Proofs.Ytddbmckbankmeaa
open Go.RowKit
def OkT (w : World) (ts : List Sl) : Prop := ∀ s ∈ ts, s.ok w
section
variable {Q : Exit → Act → World → Prop} {o : Oper} {a : Act} {w w' : World} {d lo g : Nat} {x : Operand} {W H : Int} {ys : List Int} {ts : List Sl} {t : TypeId} {us vs : List Value} {off : Nat}
theorem OkT.to (h : OkT w ts) (hb : Below w.heap.size w w') : OkT w' ts := fun s hs => (h s hs).to hb
theorem OkT.by_ (h : OkT w ts) (hg : w.grownBy w' (some g)) (hb : Blk w g t us) (ht : t ≠ 3) : OkT w' ts := fun s hs => ⟨(h s hs).1.by_ hg (fun ad e => ((h s hs).1.ne hb ht ad e).1), (h s hs).2⟩
theorem putL_by : ∀ (vs : List Value) (w : World) (o : Nat), w.grownBy (putL w g o vs) (some g)
  | [], w, o => World.grownBy.refl w _
  | v :: vs, w, o => by
    have h := putL_by vs (w.setCell ⟨g, o, none⟩ v) (o + 1)
    refine ⟨h.os, h.tape, h.output, Nat.le_trans (by simp [World.setCell]) h.size, fun q hq hne => ?_⟩
    have h2 := h.block q (by simpa [World.setCell] using hq) hne
    exact h2.trans (Below.heap_setCell w ⟨g, o, none⟩ v q (fun e => hne (by rw [e])))
def OwnT (lo : Nat) (w : World) (v : Value) (W H : Int) (ts : List Sl) : Prop := w.ownsRow lo 27 3 v ts.length (ts.flatMap (encT W H))
theorem OwnT.to {v : Value} (h : OwnT lo w v W H ts) (hb : Below w.heap.size w w') : OwnT lo w' v W H ts := own_to h hb
theorem OwnT.lt {v : Value} (h : OwnT lo w v W H ts) : ∀ k, v.ownBlock = some k → lo ≤ k ∧ k < w.heap.size := World.ownsRow.lt h
theorem OwnT.row {v : Value} (h : OwnT lo w v W H ts) (hne : ts ≠ []) : ∃ g cap rest, v = .slice (some ⟨g, 0, none⟩) ts.length cap ∧ lo ≤ g ∧ Blk w g 27 (ts.flatMap (encT W H) ++ rest) ∧ ts.length ≤ cap ∧ cap ≤ maxLen := by
  rcases h.2 with ⟨_, hn⟩ | ⟨g, cap, cur, rfl, hlo, hg, hnc, hcm, hcs, htk⟩
  · exact absurd (List.eq_nil_of_length_eq_zero hn) hne
  refine ⟨g, cap, cur.toList.drop (ts.length * 3), rfl, hlo, ?_, hnc, hcm⟩
  rw [← htk, List.take_append_drop]
  exact hg
end
section
variable {w w' : World} {lo g o : Nat} {W H : Int} {ts : List Sl} {t : TypeId} {us vs : List Value}
theorem OkT.putB (h : OkT w ts) (hb : Blk w g t us) (ht : t ≠ 3 := by decide) : OkT (putL w g o vs) ts := h.by_ (putL_by vs w o) hb ht
theorem OwnT.put {v : Value} (h : OwnT lo w v W H ts) (hlt : ∀ k, v.ownBlock = some k → k < g) : OwnT lo (putL w g o vs) v W H ts := own_put hlt h
end
theorem ownS_low {lo lo' : Nat} {w : World} {v : Value} {ms : List Mv} (h : lo ≤ lo') (ho : OwnS lo' w v ms) : OwnS lo w v ms := by
  refine ⟨ho.1, ?_⟩
  rcases ho.2 with hn | ⟨g', cap, cur, rfl, hb, hgg, rest⟩
  · exact .inl hn
  exact .inr ⟨g', cap, cur, rfl, by omega, hgg, rest⟩
theorem size_nat {W H : Int} (h : sizeB W H = true) : ∃ Wn Hn : Nat, W = Wn ∧ H = Hn ∧ sizeB Wn Hn = true := by
  have hb := sizeB_bounds h
  exact ⟨W.toNat, H.toNat, by omega, by omega, by rw [show ((W.toNat : Nat) : Int) = W by omega, show ((H.toNat : Nat) : Int) = H by omega]; exact h⟩
end Go.Proofs.Ytddbmckbankmeaa
set_option linter.unusedVariables false
set_option linter.unusedSimpArgs false
namespace Go.Proofs.Ytddbmckbankmeaa
section
variable {α β : Type}
theorem len_sub (D : DecidableEq α) : ∀ {l m : List α}, l.Nodup → (∀ x ∈ l, x ∈ m) → l.length ≤ m.length
  | [], m, _, _ => Nat.zero_le _
  | x :: l, m, hn, hs => by
    rw [List.nodup_cons] at hn
    have hx : x ∈ m := hs x (by simp)
    have h := len_sub D (l := l) (m := m.erase x) hn.2 (fun y hy => (List.mem_erase_of_ne (fun e => hn.1 (by rw [← e]; exact hy))).2 (hs y (by simp [hy])))
    rw [List.length_erase_of_mem hx] at h
    have := List.length_pos_of_mem hx
    rw [List.length_cons]
    omega
end
section
variable {W H : Int} {ms : List Mv} {m n : Mv} {xs : List Int}
end
end Go.Proofs.Ytddbmckbankmeaa
set_option linter.unusedVariables false
set_option linter.unusedSimpArgs false
namespace Go.Proofs.Ytddbmckbankmeaa
def addM (n : Mv) (o : List Mv) : List Mv := if memB n o = true then o else o ++ [n]
def innB (W H : Int) (x : Mv) (l o : List Mv) : List Mv := l.foldl (fun o m => addM (aftM W H m x) o) o
inductive Bfs (W H : Int) (l : List Mv) : Nat → List Mv → Prop
  | start : Bfs W H l 0 [⟨0, 0, 0, false⟩]
  | step {i : Nat} {o : List Mv} {x : Mv} : Bfs W H l i o → o[i]? = some x → Bfs W H l (i + 1) (innB W H x l o)
section
variable {W H : Int} {l o o' : List Mv} {x m n : Mv} {i j : Nat}
theorem inn_zero : innB W H x (l.take 0) o = o := by rw [List.take_zero]; rfl
theorem inn_succ (hm : l[j]? = some m) : innB W H x (l.take (j + 1)) o = addM (aftM W H m x) (innB W H x (l.take j) o) := by
  unfold innB
  rw [List.take_add_one, hm, List.foldl_append]
  rfl
theorem add_yes (h : memB n o = false) : addM n o = o ++ [n] := by unfold addM; rw [h]; rfl
theorem add_no (h : memB n o = true) : addM n o = o := by unfold addM; rw [if_pos h]
theorem add_pre (n : Mv) (o : List Mv) : o <+: addM n o := by
  unfold addM
  split
  · exact List.prefix_refl _
  exact List.prefix_append _ _
theorem inn_pre (x : Mv) : ∀ (l o : List Mv), o <+: innB W H x l o
  | [], o => List.prefix_refl _
  | m :: l, o => (add_pre (aftM W H m x) o).trans (inn_pre x l _)
structure OkC (W H : Int) (o : List Mv) : Prop where
  nd : o.Nodup
  al : ∀ m ∈ o, Al W H m
  ne : 0 < o.length
theorem OkC.add (h : OkC W H o) (hn : Al W H n) : OkC W H (addM n o) := by
  unfold addM
  split
  · exact h
  next hm =>
  have hm' : n ∉ o := fun e => hm (memB_iff.2 e)
  refine ⟨List.nodup_append.2 ⟨h.nd, by simp, fun a ha b hb => ?_⟩, fun m hm => ?_, by simp⟩
  · rw [List.mem_singleton.1 hb]
    exact fun e => hm' (e ▸ ha)
  rcases List.mem_append.1 hm with h1 | h1
  · exact h.al m h1
  rw [List.mem_singleton.1 h1]; exact hn
theorem OkC.inn (hx : Al W H x) : ∀ {l o : List Mv}, (∀ m ∈ l, Al W H m) → OkC W H o → OkC W H (innB W H x l o)
  | [], o, _, h => h
  | m :: l, o, hl, h => OkC.inn (l := l) (o := addM (aftM W H m x) o) hx (fun m hm => hl m (by simp [hm])) (h.add (aft_al (hl m (by simp)) hx))
theorem OkC.take (h : OkC W H o) (hx : Al W H x) (hl : ∀ m ∈ l, Al W H m) (j : Nat) : OkC W H (innB W H x (l.take j) o) := OkC.inn hx (fun m hm => hl m (List.mem_of_mem_take hm)) h
theorem Bfs.ok (h0 : Al W H ⟨0, 0, 0, false⟩) (hl : ∀ m ∈ l, Al W H m) (h : Bfs W H l i o) : OkC W H o := by
  induction h with
  | start => exact ⟨by simp, fun m hm => by rw [List.mem_singleton.1 hm]; exact h0, by simp⟩
  | step _ hx ih => exact OkC.inn (ih.al _ (List.mem_of_getElem? hx)) hl ih
theorem Bfs.le (h : Bfs W H l i o) : i ≤ o.length := by
  induction h with
  | start => simp
  | step h hx ih =>
    have h1 := (List.getElem?_eq_some_iff.1 hx).1
    rename_i i o x
    exact Nat.le_trans h1 (inn_pre (W := W) (H := H) x l o).length_le
theorem Bfs.uniq (h : Bfs W H l i o) : ∀ {o' : List Mv}, Bfs W H l i o' → o = o' := by
  induction h with
  | start => intro o' h'; cases h'; rfl
  | step h hx ih =>
    intro o' h'
    cases h' with
    | step k hy =>
      obtain rfl := ih k
      rw [hx] at hy
      cases hy
      rfl
theorem Bfs.back (h : Bfs W H l i o) : ∀ j, j < i → ∃ o', Bfs W H l j o' ∧ j < o'.length := by
  induction h with
  | start => intro j hj; omega
  | step h hx ih =>
    rename_i i o x
    intro j hj
    by_cases e : j = i
    · subst e; exact ⟨o, h, (List.getElem?_eq_some_iff.1 hx).1⟩
    exact ih j (by omega)
theorem Bfs.end_ (h : Bfs W H l i o) (hi : o.length = i) (k : Bfs W H l j o') (hj : o'.length = j) : o = o' := by
  rcases Nat.lt_trichotomy i j with e | e | e
  · obtain ⟨p, hp, hlt⟩ := k.back i e
    rw [← h.uniq hp] at hlt
    omega
  · subst e; exact h.uniq k
  obtain ⟨p, hp, hlt⟩ := h.back j e
  rw [← k.uniq hp] at hlt
  omega
end
section
variable {W H : Nat} {o o' : List Mv}
theorem OkC.few (hs : sizeB W H = true) (h : OkC W H o) : o.length ≤ 512 := by
  have hb := sizeB_bounds hs
  have D : DecidableEq Mv := fun a b => Classical.propDecidable _
  exact Nat.le_trans (len_sub D h.nd fun x hx => (mem_moves hs x).2 (h.al x hx)) (moves_len (by omega) (by omega))
theorem nd_rises {l : List Mv} (hp : l.Pairwise (fun a b => ordM a b ≤ 0)) (hn : l.Nodup) (hz : ∀ a ∈ l, ∀ b ∈ l, ordM a b = 0 → a = b) : l.Pairwise OR := by
  induction l with
  | nil => exact List.Pairwise.nil
  | cons a l ih =>
    rw [List.pairwise_cons] at hp ⊢
    rw [List.nodup_cons] at hn
    refine ⟨fun b hb => ?_, ih hp.2 hn.2 fun x hx y hy => hz x (by simp [hx]) y (by simp [hy])⟩
    have h1 := hp.1 b hb
    unfold OR
    rcases Int.lt_or_eq_of_le h1 with h2 | h2
    · exact h2
    exact absurd (hz a (by simp) b (by simp [hb]) h2) (fun e => hn.1 (e ▸ hb))
theorem sorted_moves (hs : sizeB W H = true) (h : OkC W H o) (hp : o'.Perm o) (hr : o'.Pairwise (fun a b => ordM a b ≤ 0)) : o' = (mvs1 W H 2).filter fun x => memB x o := by
  have hmem : ∀ x, x ∈ o' ↔ x ∈ o := fun x => hp.mem_iff
  have h1 : o'.Pairwise OR := nd_rises hr (hp.nodup_iff.2 h.nd) fun a _ b _ e => ord_zero e
  have h2 : o'.Pairwise (fun a b => numM W H a < numM W H b) := List.Pairwise.imp_of_mem (fun {a b} ha hb k => (ord_num (h.al a ((hmem a).1 ha)) (h.al b ((hmem b).1 hb))).1 k) h1
  refine rising_eq (numM W H) _ _ h2 ((rise_num hs).filter _) fun x => ?_
  rw [List.mem_filter, hmem]
  exact ⟨fun hx => ⟨(mem_moves hs x).2 (h.al x hx), memB_iff.2 hx⟩, fun ⟨_, hx⟩ => memB_iff.1 hx⟩
end
end Go.Proofs.Ytddbmckbankmeaa
set_option linter.unusedVariables false
set_option linter.unusedSimpArgs false
namespace Go.Proofs.Ytddbmckbankmeaa
open Go.RowKit
section
variable {w : World} {A B : Option Addr} {k c lo lo' n : Nat} {ms : List Mv} {Wd Ht : Int} {xs : List Int} {f : Nat} {vs : Array Value} {q : SP}
theorem got_ss (h : lo ≤ lo') (hc : Calls Try.prog f vs w (Got w (isSs lo' ms).p)) : Calls Try.prog f vs w (Got w (isSs lo ms).p) := hc.mono fun e w' ⟨v, h1, h2, h3⟩ => ⟨v, h1, h2, ownS_low h h3⟩
end
end Go.Proofs.Ytddbmckbankmeaa
