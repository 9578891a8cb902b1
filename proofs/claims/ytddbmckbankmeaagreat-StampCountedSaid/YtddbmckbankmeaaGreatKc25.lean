/- Part 25 of the texts behind this claim. -/
import Derived.RangeFuncNested
import Derived.RangeFuncBound
import Derived.RangeFuncCalls
import Derived.RangeFuncLeaves
import Derived.RangeFuncBox
import Derived.Shelf.Abstract
import Derived.WalkKit
import Derived.OwnWalkIn
import Derived.TacticsInMore
import Derived.LoopNIn
import Derived.LoopIn
import Derived.Test.YtddbmckbankmeaaGreatKc10
import Derived.Test.YtddbmckbankmeaaGreatKc12
import Derived.Test.YtddbmckbankmeaaGreatKc13
import Derived.Test.YtddbmckbankmeaaGreatKc14
import Derived.Test.YtddbmckbankmeaaGreatKc19
import Derived.Test.YtddbmckbankmeaaGreatKc21
import Derived.Test.YtddbmckbankmeaaGreatKc23
import Derived.Test.YtddbmckbankmeaaGreatKc24
set_option linter.unusedVariables false
set_option linter.unusedSimpArgs false
namespace Go.Proofs.YtddbmckbankmeaaGreat
open Go.RowKit
def OkB (w : World) (B : Nat) (ts : List Sl) : Prop := ∀ s ∈ ts, s.ok w ∧ ∀ ad, s.A = some ad → ad.block < B
theorem OkB.to {w w' : World} {B : Nat} {ts : List Sl} (h : OkB w B ts) (hb : Below w.heap.size w w') : OkB w' B ts := fun s hs => ⟨(h s hs).1.to hb, (h s hs).2⟩
theorem OkB.putB {w : World} {B g o : Nat} {ts : List Sl} {t : TypeId} {us vs : List Value} (h : OkB w B ts) (hb : Blk w g t us) (ht : t ≠ 3 ∨ B ≤ g := by first | exact .inl (by decide) | exact .inr (Nat.le_refl _)) : OkB (putL w g o vs) B ts := fun s hs => by
 refine ⟨⟨(h s hs).1.1.by_ (putL_by vs w o) fun ad e => ?_, (h s hs).1.2⟩, (h s hs).2⟩; rcases ht with ht | ht
 ·exact ((h s hs).1.1.ne hb ht ad e).1
 exact Nat.ne_of_lt (Nat.lt_of_lt_of_le ((h s hs).2 ad e) ht)
theorem OkB.ok {w : World} {B : Nat} {ts : List Sl} (h : OkB w B ts) : OkT w ts := fun s hs => (h s hs).1
theorem tmod_nat (r K : Nat) : Int.tmod (r : Int) (K : Int) = ((r % K : Nat) : Int) := rfl
theorem tdiv_nat (r K : Nat) : Int.tdiv (r : Int) (K : Int) = ((r / K : Nat) : Int) := rfl
section
variable {lo lo' : Nat} {w : World} {v : Value} {A : Option Addr} {n k : Nat} {xs : List Int}
theorem own_lenI (h : OwnI lo w v xs) : ∃ A k, v = .slice A xs.length k := by
 rcases h.2 with ⟨rfl, hn⟩ | ⟨g', cap, cur, rfl, _⟩
 ·exact ⟨none, 0, by rw [hn]⟩
 exact ⟨_, cap, rfl⟩
theorem ownI_ri (h : OwnI lo w (.slice A n k) xs) : RI w A xs := by
 have h' := h; intro hn; rcases h.2 with ⟨_, h0⟩ | ⟨g', cap, cur, e, _, hgg, _⟩
 ·omega
 cases e
 refine ⟨_, rfl, fun j hj => ?_⟩; exact World.ownsRow.cells h' (g := g') rfl j _ (ints_get xs hj)
end
section
variable {Q : Exit → Act → World → Prop} {o : Oper} {a : Act} {w w' : World} {d g j n k i lo : Nat} {x y : Operand} {t : TypeId} {W H : Int} {ts : List Sl} {rest ys_ : List Value} {s : Sl} {ys : List Int}
def OwnU (lo : Nat) (w : World) (v : Value) (W H : Int) (ts : List Sl) : Prop := w.ownsRow lo 45 3 v ts.length (ts.flatMap (encT W H))
theorem OwnU.to {v : Value} (h : OwnU lo w v W H ts) (hb : Below w.heap.size w w') : OwnU lo w' v W H ts := own_to h hb
theorem OwnU.lt {v : Value} (h : OwnU lo w v W H ts) : ∀ k, v.ownBlock = some k → lo ≤ k ∧ k < w.heap.size := World.ownsRow.lt h
theorem OwnU.blk {v : Value} (h : OwnU lo w v W H ts) : ∀ g, v.ownBlock = some g → ∃ t us, Blk w g t us ∧ t ≠ 3 := fun g e => by
 rcases h.2 with ⟨rfl, _⟩ | ⟨g', cap, cur, rfl, hlo, hg, _⟩
 ·cases e
 injection e with e
 obtain rfl : g' = g := e; exact ⟨_, cur.toList, hg, by decide⟩
end
section
variable {w w' : World} {lo g o : Nat} {W H : Int} {ts : List Sl} {t : TypeId} {us vs : List Value}
theorem OwnU.put {v : Value} (h : OwnU lo w v W H ts) (hlt : ∀ k, v.ownBlock = some k → k < g) : OwnU lo (putL w g o vs) v W H ts := own_put hlt h
end
section
variable {w w' : World} {lo g : Nat} {W H : Int} {ts us : List Sl} {v : Value} {t : TypeId} {cs : List Value} {A : Option Addr} {k n q size B : Nat} {xs : List Value}
theorem Reads.take (h : Reads w B size A n xs) (hk : q ≤ n) : Reads w B size A q (xs.take (q * size)) := by
 refine ⟨?_, fun hn => ?_⟩
 ·rw [List.length_take, h.1]; exact Nat.min_eq_left (Nat.mul_le_mul_right _ hk)
 obtain ⟨ad, e, hb, hc⟩ := h.2 (by omega); refine ⟨ad, e, hb, fun j u hu => hc j u ?_⟩; rw [List.getElem?_take] at hu; split at hu
 ·exact hu
 cases hu
theorem OwnU.cl (h : OwnU lo w v W H ts) : ∃ A k, v = .slice A ts.length k ∧ ts.length ≤ k ∧ k ≤ 9223372036854775807 ∧ (A = none → ts.length = 0 ∧ k = 0) := by
 rcases h.2 with ⟨rfl, hn⟩ | ⟨g, cap, cur, rfl, hlo, hg, hnc, hcm, _⟩
 ·exact ⟨none, 0, by rw [hn], by omega, by omega, fun _ => ⟨hn, rfl⟩⟩
 exact ⟨_, cap, rfl, hnc, hcm, fun e => by cases e⟩
theorem OwnU.row (h : OwnU lo w v W H ts) (hne : ts ≠ []) : ∃ g cap rest, v = .slice (some ⟨g, 0, none⟩) ts.length cap ∧ lo ≤ g ∧ Blk w g 45 (ts.flatMap (encT W H) ++ rest) ∧ ts.length ≤ cap ∧ cap ≤ maxLen := by
 rcases h.2 with ⟨_, hn⟩ | ⟨g, cap, cur, rfl, hlo, hg, hnc, hcm, hcs, htk⟩
 ·exact absurd (List.eq_nil_of_length_eq_zero hn) hne
 refine ⟨g, cap, cur.toList.drop (ts.length * 3), rfl, hlo, ?_, hnc, hcm⟩; rw [← htk, List.take_append_drop]; exact hg
theorem OwnU.ld (h : OwnU lo w (.slice A n k) W H ts) {j : Nat} {s : Sl} (hj : ts[j]? = some s) : ∃ g, A = some ⟨g, 0, none⟩ ∧ w.cell? ⟨g, j * 3, none⟩ = some (.int .i64 W) ∧ w.cell? ⟨g, j * 3 + 1, none⟩ = some (.int .i64 H) ∧ w.cell? ⟨g, j * 3 + 2, none⟩ = some (.slice s.A s.xs.length s.k) := by
 have hne : ts ≠ [] := fun e => by rw [e] at hj; cases hj
 obtain ⟨g, cap, rest, e, _, hb, _⟩ := h.row hne; injection e with e
 exact ⟨g, e, tcell_ld hb hj⟩
theorem OwnU.some_ (h : OwnU lo w (.slice A n k) W H ts) {j : Nat} {s : Sl} (hj : ts[j]? = some s) : ∃ g, A = some ⟨g, 0, none⟩ := let ⟨g, e, _⟩ := h.ld hj; ⟨g, e⟩
theorem OwnU.ne (h : OwnU lo w v W H ts) (hne : ts ≠ []) (hb : Blk w g t []) : ∀ r, v.ownBlock = some r → r ≠ g := fun r hr e => by
 obtain ⟨g', cap, rest, rfl, _, hb', _⟩ := h.row hne; injection hr with hr
 have e2 : g' = g := hr.trans e; subst e2; unfold Blk at hb hb'; rw [hb] at hb'; injection hb' with hb'
 injection hb' with hc _ _
 have := congrArg Array.size hc
 cases ts with
 | nil => exact hne rfl
 | cons a l => simp [encT] at this
theorem OwnU.by_ {r : Option Nat} (h : OwnU lo w v W H ts) (hg : w.grownBy w' r) (hne : ∀ z, r = some z → ∀ y, v.ownBlock = some y → z ≠ y) : OwnU lo w' v W H ts := by
 refine ⟨h.1, ?_⟩; rcases h.2 with hn | ⟨g', cap, cur, rfl, hb, hgg, rest⟩
 ·exact .inl hn
 exact .inr ⟨g', cap, cur, rfl, hb, (hg.block g' (Array.getElem?_eq_some_iff.1 hgg).1 (fun e => hne g' e.symm g' rfl rfl)).trans hgg, rest⟩
theorem OwnU.reads (h : OwnU lo w (.slice A ts.length k) W H ts) : Reads w w.heap.size 3 A ts.length (ts.flatMap (encT W H)) := Reads.of_own h
end
section
variable {Q : Exit → Act → World → Prop} {o : Oper} {a : Act} {w : World} {d g n k i lo m c : Nat} {x y : Operand} {W H : Int} {us vs : List Sl} {A : Option Addr} {v0 : Value} {R : Act → World → Prop}
end
section
variable {o : Oper} {a : Act} {x y : Operand} {e n : Int}
theorem op_cvU (ho : o.op = .convert 3 54 x) (hx : a.eval x = .int .i64 e) (w : World) : (execOp a.eval o).run Tryz.prog w = .ok (.value (.int .u64 (IntKind.u64.wrap e))) w := by
 generalize a.eval = ev at hx ⊢; unfold execOp; simp only [ho, hx]; simp [go_sem]
theorem op_remU (hn : 0 < n) (hf : IntKind.u64.wrap (e.tmod n) = e.tmod n) (ho : o.op = .binOp .rem 54 x (.const (.int .u64 n)) 54) (hx : a.eval x = .int .u64 e) (w : World) : (execOp a.eval o).run Tryz.prog w = .ok (.value (.int .u64 (e.tmod n))) w := by
 have h0 : ¬ n = 0 := by omega
 have h1 : ¬ n = -1 := by omega
 have hc : a.eval (.const (.int .u64 n)) = .int .u64 n := rfl; generalize a.eval = ev at hx hc ⊢; unfold execOp; simp only [ho, hx, hc]; simp [go_sem, h0, h1, hf]
theorem op_ofU (hf : Fit e) (ho : o.op = .convert 54 3 x) (hx : a.eval x = .int .u64 e) (w : World) : (execOp a.eval o).run Tryz.prog w = .ok (.value (.int .i64 e)) w := by
 have hw := wrap_fit hf; generalize a.eval = ev at hx ⊢; unfold execOp; simp only [ho, hx]; simp [go_sem, hw]
end
theorem mod_u (x : Int) {n : Int} (hn : 0 < n ∧ n ≤ 10) : (0 ≤ (IntKind.u64.wrap x).tmod n ∧ (IntKind.u64.wrap x).tmod n < n) ∧ IntKind.u64.wrap ((IntKind.u64.wrap x).tmod n) = (IntKind.u64.wrap x).tmod n := by
 have h0 : 0 ≤ IntKind.u64.wrap x := by rw [IntKind.wrap_u64]; omega
 generalize IntKind.u64.wrap x = u at h0; have h1 : u.tmod n = u % n := Int.tmod_eq_emod_of_nonneg h0; rw [h1]; have h2 := Int.emod_nonneg u (show n ≠ 0 by omega); have h3 := Int.emod_lt_of_pos u hn.1; exact ⟨⟨h2, h3⟩, by rw [IntKind.wrap_u64]; omega⟩
end Go.Proofs.YtddbmckbankmeaaGreat
set_option linter.unusedVariables false
set_option linter.unusedSimpArgs false
namespace Go.Proofs.YtddbmckbankmeaaGreat
open Go.RowKit
namespace Ex
def rawZ (z : Int) (A : Option Addr) (c : Nat) : Raw := ⟨decide (z < 0), A, c, dig z.natAbs⟩
theorem rawZ_at {z : Int} {A : Option Addr} {c : Nat} {w : World} (h : NN w A c z.natAbs) : (rawZ z A c).at_ w := ⟨h.1, dg_dig _, h.2.1, h.2.2⟩
theorem rawZ_val (z : Int) (A : Option Addr) (c : Nat) : (rawZ z A c).val = z := by
 unfold Raw.val rawZ; simp only [val_dig, decide_eq_true_eq]; split <;> omega
theorem rawZ_ok (z : Int) (A : Option Addr) (c : Nat) : (rawZ z A c).ok = decide (ln z.natAbs ≤ 256) := by
 have h0 : (rawZ z A c).ok = (decide (ln z.natAbs ≤ 256) && (!(decide (ln z.natAbs = 0) && decide (z < 0))) && (!(decide (0 < ln z.natAbs) && decide ((dig z.natAbs).getD (ln z.natAbs - 1) 0 = 0)))) := rfl
 have h1 : (!(decide (ln z.natAbs = 0) && decide (z < 0))) = true := by
  have := ln_eq_zero (n := z.natAbs); simp; omega
 have h2 : (!(decide (0 < ln z.natAbs) && decide ((dig z.natAbs).getD (ln z.natAbs - 1) 0 = 0))) = true := by
  by_cases h0 : 0 < ln z.natAbs
  ·have := dig_last z.natAbs (ln z.natAbs - 1) (by rw [dig_length]; omega); simp only [List.getD_eq_getElem?_getD] at this ⊢; simp [this]
  simp [h0]
 rw [h0, h1, h2]; simp
end Ex
def noU (us : List Value) : Bool := us.all fun v => match v with | .int .u32 _ => false | _ => true
theorem noU_at {us : List Value} (h : noU us = true) {q : Nat} {x : Int} : us[q]? ≠ some (.int .u32 x) := fun e => by
 unfold noU at h; rw [List.all_eq_true] at h; have := h _ (List.mem_of_getElem? e); cases this
structure NT (w : World) (A : Option Addr) (c n : Nat) : Prop where
 out : Ex.NN w A c n
section
variable {w w' : World} {A : Option Addr} {c n g o : Nat} {t : TypeId} {us vs : List Value}
theorem NT.to (h : NT w A c n) (hb : Below w.heap.size w w') : NT w' A c n := ⟨h.out.to hb⟩
theorem NT.by_ (h : NT w A c n) (hb : Blk w g t us) (hu : noU us = true) (hg : w.grownBy w' (some g)) : NT w' A c n := ⟨⟨fun hn => by
 obtain ⟨ad, e, hc⟩ := h.out.1 hn; refine ⟨ad, e, fun j hj => ?_⟩; have h1 := hc j hj; refine (World.cell?_of_block (hg.block _ (World.block_lt_of_cell? w _ h1) fun e2 => ?_)).trans h1; have e3 : (ad.add j).block = g := Option.some.inj e2
 have h2 : w.cell? (ad.add j) = us[(ad.add j).off]? := by
  have h3 := hb.cell (ad.add j).off; rw [← h3]
  have hs : (ad.add j).spot.isSome = false := by
   unfold World.cell? at h1; cases hq : (ad.add j).spot.isSome
   ·rfl
   rw [hq] at h1; split at h1 <;> simp at h1
  unfold World.cell?; simp only [e3]; simp [hs]
 rw [h1] at h2
 exact noU_at hu h2.symm, h.out.2⟩⟩
theorem NT.putB (h : NT w A c n) (hb : Blk w g t us) (hu : noU us = true := by rfl) : NT (putL w g o vs) A c n := h.by_ hb hu (putL_by vs w o)
end
def isI (z : Int) : SP := ⟨fun v w => ∃ A c, v = .agg #[.bool (decide (z < 0)), .slice A (Ex.ln z.natAbs) c] ∧ NT w A c z.natAbs, fun v w w' ⟨A, c, h1, h2⟩ hb => ⟨A, c, h1, h2.to hb⟩⟩
def isP3 (p q r : SP) : SP := ⟨fun v w => ∃ x y z, v = .tuple #[x, y, z] ∧ p.p x w ∧ q.p y w ∧ r.p z w, fun v w w' ⟨x, y, z, h1, h2, h3, h4⟩ hb => ⟨x, y, z, h1, p.st x w w' h2 hb, q.st y w w' h3 hb, r.st z w w' h4 hb⟩⟩
section
variable {P : Program} {f : FuncId} {vs : Array Value} {w : World} {z z2 err : Int}
theorem got_I (h : Calls P f vs w (Ex.RetZ z w)) : Calls P f vs w (Got w (isI z).p) := h.mono fun e w' ⟨A, c, h1, h2, h3⟩ => ⟨_, h1, h3, A, c, rfl, ⟨h2⟩⟩
theorem got_IE (h : Calls P f vs w (Ex.RetZE z err w)) : Calls P f vs w (Got w (isP (isI z) (isV (.int .i64 err))).p) := h.mono fun e w' ⟨A, c, h1, h2, h3⟩ => ⟨_, h1, h3, _, _, rfl, ⟨A, c, rfl, ⟨h2⟩⟩, rfl⟩
theorem got_II (h : Calls P f vs w (Ex.RetZZE z z2 err w)) : Calls P f vs w (Got w (isP3 (isI z) (isI z2) (isV (.int .i64 err))).p) := h.mono fun e w' ⟨A, c, A', c', h1, h2, h3, h4⟩ => ⟨_, h1, h4, _, _, _, rfl, ⟨A, c, rfl, ⟨h2⟩⟩, ⟨A', c', rfl, ⟨h3⟩⟩, rfl⟩
end
theorem ln_small {n k : Nat} (h : n < 4294967296 ^ k) : Ex.ln n ≤ k := Ex.ln_le h
section
variable {w : World} {v v2 : Value} {x y : Int}
theorem fromInt_got (x : Int) (w : World) (h1 : -9223372036854775808 ≤ x) (h2 : x ≤ 9223372036854775807) : Calls Tryz.prog 25 #[.int .i64 x] w (Got w (isI x).p) := got_I (Ex.FromInt_calls x w h1 h2)
theorem whole_got (x : Int) (w : World) (h1 : -9223372036854775808 ≤ x) (h2 : x ≤ 9223372036854775807) : Calls Tryz.prog 18 #[.int .i64 x] w (Got w (isI x).p) := got_I (Ex.Whole_calls x w h1 h2)
theorem pow_got (k : Nat) (hv : (isI x).p v w) (hx : Ex.ln x.natAbs ≤ 256) (hk : k ≤ 10000) (hl : Ex.ln (x ^ k).natAbs ≤ 256) : Calls Tryz.prog 24 #[v, .int .i64 (k : Int)] w (Got w (isP (isI (x ^ k)) (isV (.int .i64 0))).p) := by
 obtain ⟨A, c, rfl, hn⟩ := hv; have h := got_IE (Ex.Pow_calls (Ex.rawZ x A c) (k : Int) w (Ex.rawZ_at hn.out)); have ho : (Ex.rawZ x A c).ok = true := by rw [Ex.rawZ_ok]; exact decide_eq_true hx
 have e1 : Ex.powz (Ex.rawZ x A c) (k : Int) = x ^ k := by
  unfold Ex.powz; rw [if_pos ⟨ho, by omega, by omega⟩, Ex.rawZ_val, Int.toNat_natCast]; unfold Ex.fitz Ex.zpow; rw [if_pos hl]
 have e2 : Ex.powe (Ex.rawZ x A c) (k : Int) = 0 := by
  unfold Ex.powe; rw [if_pos ⟨ho, by omega, by omega⟩, Ex.rawZ_val, Int.toNat_natCast]; unfold Ex.fite Ex.zpow; rw [if_pos hl]
 rw [e1, e2] at h; exact h
theorem add_got (hv : (isI x).p v w) (hv2 : (isI y).p v2 w) (hx : Ex.ln x.natAbs ≤ 256) (hy : Ex.ln y.natAbs ≤ 256) (hl : Ex.ln (x + y).natAbs ≤ 256) : Calls Tryz.prog 27 #[v, v2] w (Got w (isP (isI (x + y)) (isV (.int .i64 0))).p) := by
 obtain ⟨A, c, rfl, hn⟩ := hv; obtain ⟨A', c', rfl, hn'⟩ := hv2; have h := got_IE (Ex.Add_calls (Ex.rawZ x A c) (Ex.rawZ y A' c') w (Ex.rawZ_at hn.out) (Ex.rawZ_at hn'.out)); have ho : ((Ex.rawZ x A c).ok && (Ex.rawZ y A' c').ok) = true := by rw [Ex.rawZ_ok, Ex.rawZ_ok, decide_eq_true hx, decide_eq_true hy]; rfl
 have e1 : Ex.opz (Ex.rawZ x A c) (Ex.rawZ y A' c') ((Ex.rawZ x A c).val + (Ex.rawZ y A' c').val) = x + y := by
  unfold Ex.opz; rw [if_pos ho, Ex.rawZ_val, Ex.rawZ_val]; unfold Ex.fitz; rw [if_pos hl]
 have e2 : Ex.ope (Ex.rawZ x A c) (Ex.rawZ y A' c') ((Ex.rawZ x A c).val + (Ex.rawZ y A' c').val) = 0 := by
  unfold Ex.ope; rw [if_pos ho, Ex.rawZ_val, Ex.rawZ_val]; unfold Ex.fite; rw [if_pos hl]
 rw [e1, e2] at h; exact h
theorem div_got (hv : (isI x).p v w) (hv2 : (isI y).p v2 w) (hx : Ex.ln x.natAbs ≤ 256) (hy : Ex.ln y.natAbs ≤ 256) (h0 : y ≠ 0) : Calls Tryz.prog 28 #[v, v2] w (Got w (isP3 (isI (x / y)) (isI (x % y)) (isV (.int .i64 0))).p) := by
 obtain ⟨A, c, rfl, hn⟩ := hv; obtain ⟨A', c', rfl, hn'⟩ := hv2; have h := got_II (Ex.Div_calls (Ex.rawZ x A c) (Ex.rawZ y A' c') w (Ex.rawZ_at hn.out) (Ex.rawZ_at hn'.out)); have ho : ((Ex.rawZ x A c).ok && (Ex.rawZ y A' c').ok) = true := by rw [Ex.rawZ_ok, Ex.rawZ_ok, decide_eq_true hx, decide_eq_true hy]; rfl
 have e1 : Ex.dvq (Ex.rawZ x A c) (Ex.rawZ y A' c') = x / y := by
  unfold Ex.dvq; rw [if_pos ⟨ho, by rw [Ex.rawZ_val]; exact h0⟩, Ex.rawZ_val, Ex.rawZ_val]
 have e2 : Ex.dvr (Ex.rawZ x A c) (Ex.rawZ y A' c') = x % y := by
  unfold Ex.dvr; rw [if_pos ⟨ho, by rw [Ex.rawZ_val]; exact h0⟩, Ex.rawZ_val, Ex.rawZ_val]
 have e3 : Ex.dve (Ex.rawZ x A c) (Ex.rawZ y A' c') = 0 := by
  unfold Ex.dve; rw [if_pos ho, if_neg (by rw [Ex.rawZ_val]; exact h0)]
 rw [e1, e2, e3] at h; exact h
theorem of_got (hv : (isI x).p v w) : Calls Tryz.prog 17 #[v] w (Got w (isI x).p) := by
 obtain ⟨A, c, rfl, hn⟩ := hv; exact (Ex.rOf_calls _ A _ c w).mono fun e w' h => ⟨_, h.1, h.2, A, c, rfl, hn.to h.2⟩
theorem order_got (hv : (isI x).p v w) (hv2 : (isI y).p v2 w) (hx : Ex.ln x.natAbs ≤ 1000) (hy : Ex.ln y.natAbs ≤ 1000) : Calls Tryz.prog 16 #[v, v2] w (Got w (isV (.int .i64 (Ex.sgnv (x - y)))).p) := by
 obtain ⟨A, c, rfl, hn⟩ := hv; obtain ⟨A', c', rfl, hn'⟩ := hv2; exact (Ex.rOrder_calls x y A c A' c' w hn.out hn'.out (by omega) (by omega)).mono fun e w' h => ⟨_, h.1, h.2, rfl⟩
end
def isU (n : Nat) : SP := ⟨fun v w => ∃ A c, v = .agg #[.bool false, .slice A (Ex.ln n) c] ∧ NT w A c n, fun v w w' ⟨A, c, h1, h2⟩ hb => ⟨A, c, h1, h2.to hb⟩⟩
theorem isU_I {n : Nat} {v : Value} {w : World} (h : (isU n).p v w) : (isI (n : Int)).p v w := by
 obtain ⟨A, c, h1, h2⟩ := h; exact ⟨A, c, by rw [h1, decide_eq_false (by omega)]; rfl, h2⟩
theorem isI_U {n : Nat} {v : Value} {w : World} (h : (isI (n : Int)).p v w) : (isU n).p v w := by
 obtain ⟨A, c, h1, h2⟩ := h; rw [decide_eq_false (by omega)] at h1; exact ⟨A, c, h1, h2⟩
theorem nt_nil (w : World) : NT w none 0 0 := ⟨Ex.NN.nil _ _ _ (by omega)⟩
theorem ln_z : Ex.ln 0 = 0 := Ex.ln_zero
section
variable {P : Program} {f : FuncId} {vs : Array Value} {w : World} {n m : Nat} {q : SP}
theorem got_U (h : Calls P f vs w (Got w (isI (n : Int)).p)) : Calls P f vs w (Got w (isU n).p) := h.mono fun e w' ⟨v, h1, h2, h3⟩ => ⟨v, h1, h2, isI_U h3⟩
theorem got_UP (h : Calls P f vs w (Got w (isP (isI (n : Int)) q).p)) : Calls P f vs w (Got w (isP (isU n) q).p) := h.mono fun e w' ⟨v, h1, h2, x, y, h3, h4, h5⟩ => ⟨v, h1, h2, x, y, h3, isI_U h4, h5⟩
theorem got_U3 (h : Calls P f vs w (Got w (isP3 (isI (n : Int)) (isI (m : Int)) q).p)) : Calls P f vs w (Got w (isP3 (isU n) (isU m) q).p) := h.mono fun e w' ⟨v, h1, h2, x, y, z, h3, h4, h5, h6⟩ => ⟨v, h1, h2, x, y, z, h3, isI_U h4, isI_U h5, h6⟩
end
section
variable {w : World} {v v2 : Value} {x y : Nat}
theorem fromIntU (x : Nat) (w : World) (h : x ≤ 9223372036854775807) : Calls Tryz.prog 25 #[.int .i64 (x : Int)] w (Got w (isU x).p) := got_U (fromInt_got _ w (by omega) (by omega))
theorem wholeU (x : Nat) (w : World) (h : x ≤ 9223372036854775807) : Calls Tryz.prog 18 #[.int .i64 (x : Int)] w (Got w (isU x).p) := got_U (whole_got _ w (by omega) (by omega))
theorem powU (k : Nat) (hv : (isU x).p v w) (hx : Ex.ln x ≤ 256) (hk : k ≤ 10000) (hl : Ex.ln (x ^ k) ≤ 256) : Calls Tryz.prog 24 #[v, .int .i64 (k : Int)] w (Got w (isP (isU (x ^ k)) (isV (.int .i64 0))).p) := by
 have e : ((x : Int) ^ k) = ((x ^ k : Nat) : Int) := by simp
 have h := pow_got k (isU_I hv) hx hk (by rw [e]; exact hl); rw [e] at h; exact got_UP h
theorem addU (hv : (isU x).p v w) (hv2 : (isU y).p v2 w) (hx : Ex.ln x ≤ 256) (hy : Ex.ln y ≤ 256) (hl : Ex.ln (x + y) ≤ 256) : Calls Tryz.prog 27 #[v, v2] w (Got w (isP (isU (x + y)) (isV (.int .i64 0))).p) := got_UP (add_got (isU_I hv) (isU_I hv2) hx hy hl)
theorem divU (hv : (isU x).p v w) (hv2 : (isU y).p v2 w) (hx : Ex.ln x ≤ 256) (hy : Ex.ln y ≤ 256) (h0 : 0 < y) : Calls Tryz.prog 28 #[v, v2] w (Got w (isP3 (isU (x / y)) (isU (x % y)) (isV (.int .i64 0))).p) := got_U3 (div_got (isU_I hv) (isU_I hv2) hx hy (by omega))
theorem ofU (hv : (isU x).p v w) : Calls Tryz.prog 17 #[v] w (Got w (isU x).p) := got_U (of_got (isU_I hv))
theorem orderU (hv : (isU x).p v w) (hv2 : (isU x).p v2 w) (hx : Ex.ln x ≤ 256) : Calls Tryz.prog 16 #[v, v2] w (Got w (isV (.int .i64 0)).p) := by
 have h := order_got (isU_I hv) (isU_I hv2) (Nat.le_trans hx (by omega)) (Nat.le_trans hx (by omega)); rw [Int.sub_self] at h; exact h
end
section
variable {P : Program} {Q : Exit → Act → World → Prop} {o : Oper} {a : Act} {w : World} {d g n k : Nat} {x y : Operand} {t : TypeId} {p q : Value} {A : Option Addr} {b : Bool} {s r u : SP}
theorem lds_J (h : Blk w g t [p, q]) : (Instr.loadAt 25 (.pointer (some ⟨g, 0, none⟩))).run Tryz.prog w = .ok (.agg #[p, q]) w := by
 have h0 := h.cell 0; have h1 := h.cell 1; simp at h0 h1; simp [go_sem, h0, h1]
theorem op_ldJ (ho : o.op = .load 25 x) (hd : o.dst = some d) (hx : a.eval x = .pointer (some ⟨g, 0, none⟩)) (h : Blk w g t [p, q]) : o.wp Tryz.prog a w (Post a w d (isV (.agg #[p, q])).p) Q := op_load ho hd hx (lds_J h) rfl
theorem sto_J (h : Blk w g t [p, q]) : (Instr.storeAt 25 (.pointer (some ⟨g, 0, none⟩)) (.agg #[.bool b, .slice A n k])).run Tryz.prog w = .ok () (putL w g 0 [.bool b, .slice A n k]) := by
 have h0 := h.cell 0; have h1 := h.cell 1; simp at h0 h1; have f0 := h.frozen 0; have f1 := h.frozen 1; simp only [putL]; simp [go_sem, h0, h1, f0, f1]
theorem alloc_J (w : World) : (Instr.alloc 25 true (.tuple #[])).run Tryz.prog w = .ok (.pointer (some ⟨w.heap.size, 0, none⟩)) (w.alloc (.cells [.bool false, .slice none 0 0].toArray 25)) := by
 simp [go_sem]
theorem op_b0J (ho : o.op = .build 25 #[]) (w : World) : (execOp a.eval o).run Tryz.prog w = .ok (.value (.agg #[.bool false, .slice none 0 0])) w := by
 unfold execOp; simp only [ho]; simp [go_sem]
theorem op_ex1 (ho : o.op = .extract y 0) (hx : (isP3 s r u).p (a.eval y) w) : ∃ v, (∀ w, (execOp a.eval o).run P w = .ok (.value v) w) ∧ s.p v w := by
 obtain ⟨x1, x2, x3, h, h1, h2, h3⟩ := hx; exact ⟨x1, op_extract ho h rfl, h1⟩
theorem op_ex2 (ho : o.op = .extract y 1) (hx : (isP3 s r u).p (a.eval y) w) : ∃ v, (∀ w, (execOp a.eval o).run P w = .ok (.value v) w) ∧ r.p v w := by
 obtain ⟨x1, x2, x3, h, h1, h2, h3⟩ := hx; exact ⟨x2, op_extract ho h rfl, h2⟩
theorem op_ex3 (ho : o.op = .extract y 2) (hx : (isP3 s r u).p (a.eval y) w) : ∃ v, (∀ w, (execOp a.eval o).run P w = .ok (.value v) w) ∧ u.p v w := by
 obtain ⟨x1, x2, x3, h, h1, h2, h3⟩ := hx; exact ⟨x3, op_extract ho h rfl, h3⟩
end
end Go.Proofs.YtddbmckbankmeaaGreat
set_option linter.unusedVariables false
set_option linter.unusedSimpArgs false
namespace Go.Proofs.YtddbmckbankmeaaGreat
open Go.RowKit Go.Shelf
attribute [local go_sem] Oper.semAt_some
def KpM (W W' : World) : Prop := W.heap.size ≤ W'.heap.size ∧ ∀ g t us, t ≠ 65 → t ≠ 29 → Blk W g t us → Blk W' g t us
theorem KpM.trans {A B C : World} (h : KpM A B) (k : KpM B C) : KpM A C := ⟨Nat.le_trans h.1 k.1, fun g t us h1 h2 hb => k.2 g t us h1 h2 (h.2 g t us h1 h2 hb)⟩
def JW (J : List Mv → World → Prop) (pre : List Mv) (bm : Nat) (X : World) : Prop := ∃ W1, W1.heap.size = bm + 1 ∧ J pre W1 ∧ Below W1.heap.size W1 X
section
variable {J : List Mv → World → Prop} {pre : List Mv} {bm g o : Nat} {X X' : World} {vs : List Value}
theorem JW.lt (h : JW J pre bm X) : bm < X.heap.size := let ⟨W1, h1, _, h3⟩ := h; by have := h3.size; omega
theorem JW.to (h : JW J pre bm X) (hb : Below X.heap.size X X') : JW J pre bm X' := let ⟨W1, h1, h2, h3⟩ := h; ⟨W1, h1, h2, below_then h3 h3.size hb⟩
theorem JW.put (h : JW J pre bm X) (hg : bm < g) : JW J pre bm (putL X g o vs) := let ⟨W1, h1, h2, h3⟩ := h; ⟨W1, h1, h2, putL_below (by omega) vs _ o h3⟩
theorem JW.get {B : Nat} (h : JW J pre bm X) (hJ : AbidesFrom B J) : J pre X := let ⟨W1, h1, h2, h3⟩ := h; hJ pre W1 X none h2 (bel_grown h3) (fun r e => by cases e)
theorem JW.new (h : J pre X) (h0 : 0 < X.heap.size) : JW J pre (X.heap.size - 1) X := ⟨X, by omega, h, Below.refl _ _⟩
end
section
variable {Q : Exit → Act → World → Prop} {o : Oper} {a : Act} {w : World} {d : Nat} {b0 b1 : Bool}
end
end Go.Proofs.YtddbmckbankmeaaGreat
set_option linter.unusedVariables false
set_option linter.unusedSimpArgs false
namespace Go.Proofs.YtddbmckbankmeaaGreat
open Go.RowKit
theorem bools_inj : ∀ {bs cs : List Bool}, bools bs = bools cs → bs = cs
 | [], [], _ => rfl
 | [], c :: cs, h => by cases h
 | b :: bs, [], h => by cases h
 | b :: bs, c :: cs, h => by
  unfold bools at h; rw [List.map_cons, List.map_cons] at h; injection h with h1 h2
  injection h1 with h1
  rw [h1, bools_inj (show bools bs = bools cs from h2)]
open Classical in
noncomputable def fc (g N : Nat) (w : World) : Nat := if h : ∃ bs rest, Blk w g 4 (bools bs ++ rest) ∧ bs.length = N then (Classical.choose h).count false else 0
theorem fc_eq {g N : Nat} {w : World} {bs : List Bool} {rest : List Value} (h : Blk w g 4 (bools bs ++ rest)) (hl : bs.length = N) : fc g N w = bs.count false := by
 have hex : ∃ bs rest, Blk w g 4 (bools bs ++ rest) ∧ bs.length = N := ⟨bs, rest, h, hl⟩; unfold fc; rw [dif_pos hex]; have hs := Classical.choose_spec hex; generalize Classical.choose hex = cs at hs ⊢; obtain ⟨rest2, h2, hl2⟩ := hs; have e := (show w.heap[g]? = _ from h).symm.trans h2; simp at e; have l1 : (bools bs).length = N := by simp [bools, hl]
 have l2 : (bools cs).length = N := by simp [bools, hl2]
 have h3 := congrArg (List.take N) e; rw [List.take_append_of_le_length (by omega), List.take_append_of_le_length (by omega), List.take_of_length_le (by omega), List.take_of_length_le (by omega)] at h3; rw [bools_inj h3]
theorem op_lenB3 {o : Oper} {a : Act} {w : World} {d n k : Nat} {A : Option Addr} {x : Operand} {Q : Exit → Act → World → Prop} (ho : o.op = .call { callee := .builtin .len, args := #[x], argTypes := #[78] }) (hd : o.dst = some d) (hx : a.eval x = .slice A n k) : o.wp Tryz.prog a w (Post a w d (isV (.int .i64 ((n : Nat) : Int))).p) Q := by
 refine op_run hd ?_ rfl; generalize a.eval = ev at hx ⊢; unfold execOp; simp only [ho]; simp [go_sem, hx]
set_option maxRecDepth 100000 in
set_option maxHeartbeats 1000000 in
theorem cycles_got (Wd Ht : Int) (m : Mv) (N : Nat) (w : World) (hal : Al Wd Ht m) (hN : (N : Int) = Wd * Ht) :
  Calls Tryz.prog 26 #[.agg #[.int .i64 Wd, .int .i64 Ht], .agg #[.int .i64 m.x, .int .i64 m.y, .int .i64 m.t, .bool m.f]] w (Got w (isV (.int .i64 ((cyN Wd Ht N m : Nat) : Int))).p) := by
 have hwh := hal.w; have hwh2 := hal.h; have hN64 : N ≤ 64 := by have := mul_small (a := Wd) (b := Ht) (by omega) (by omega); omega
 have HNN := Hd.mk hN.symm; have HN := Hd.mk hN; have HAL := Hd.mk hal; clear hN hal; go_enter Tryz.func26, Tryz.ntmps26
 go_upto_region 1 with fail
 obtain ⟨W0, hW0⟩ : ∃ W : World, W = (w.alloc (.cells #[.int .i64 Wd, .int .i64 Ht] 63)).alloc (.cells #[.int .i64 m.x, .int .i64 m.y, .int .i64 m.t, .bool m.f] 65) := ⟨_, rfl⟩; rw [← hW0]; obtain ⟨he, hb⟩ := env_two hW0; have HE := Hd.mk he; have HB := Hd.mk hb; clear he hb hW0; refine wp_region_vd 0 [] [] [] 63 [.int .i64 0, .int .i64 0] [] (by rfl) alloc_Z ?_ ?_
 ·intro qi qh qA aa wx hb hs hd
  match qi, qh, qA with
  | qi + 0, h, _ => omega
 intro vs X1 hb hv hal hne; replace HB := Hd.mk (bel_then HB.out hb); replace HE := Hd.mk (HE.out.to hb); simp only [PA]; clear hv hal hne hb; go_upto_region 2 with fail
 refine wp_region_vd 6 [9, 10, 11, 12, 13, 14] [0, 2, 4] [] 63 [.int .i64 0, .int .i64 0] [isV (.pointer (some ⟨w.heap.size, 0, none⟩)), qI Wd, isV (.pointer (some ⟨w.heap.size, 1, none⟩)), qI Ht, qI ((N : Nat) : Int), isBs X1.heap.size (List.replicate N false)] (by rfl) alloc_Z ?_ ?_
 ·intro qi qh qA aa wx hb hs hd
  match qi, qh, qA with
  | 0, _, _ => exact aL ⟨_, op_faZ0 rfl (hs 2 rfl), rfl⟩ | 1, _, _ => exact aL (op_ldI rfl rfl (hd 0 rfl) ((HE.out.to hb).cell 0 0 rfl rfl)) | 2, _, _ => exact aL ⟨_, op_faZ1 rfl (hs 2 rfl), rfl⟩ | 3, _, _ => exact aL (op_ldI rfl rfl (hd 2 rfl) ((HE.out.to hb).cell 0 1 rfl rfl)) | 4, _, _ => exact aL (pure_b (int_eq HNN.out) (⟨_, op_mul (by unfold Fit; rw [HNN.out]; omega) rfl (hd 1 rfl) (hd 3 rfl), rfl⟩)) | 5, _, _ => exact aL (op_makeB (by omega) rfl rfl (hd 4 rfl) (hd 4 rfl) _ hb.size) | qi + 6, h, _ => omega
 intro vs X2 hb hv hal hne; have HL0 := Hd.mk (HE.out.lt); have HBW := HB; replace HB := Hd.mk (bel_then HB.out hb); replace HE := Hd.mk (HE.out.to hb); obtain ⟨g14, e14, l14, rest14, b14⟩ : ∃ g, vs 14 = .slice (some ⟨g, 0, none⟩) (List.replicate N false).length (List.replicate N false).length ∧ X1.heap.size ≤ g ∧ ∃ rest, Blk X2 g 4 (bools (List.replicate N false) ++ rest) := hv 5 (by decide) rfl; rw [List.length_replicate] at e14; replace HE : Hd (Env X2 [⟨w.heap.size, 63, [.int .i64 Wd, .int .i64 Ht]⟩, ⟨w.heap.size + 1, 65, [.int .i64 m.x, .int .i64 m.y, .int .i64 m.t, .bool m.f]⟩, ⟨g14, 4, bools (List.replicate N false) ++ rest14⟩]) := ⟨Env.addne (e := ⟨g14, 4, bools (List.replicate N false) ++ rest14⟩) HE.out b14 (fun e' he => Nat.ne_of_lt (Nat.lt_of_lt_of_le (HL0.out e' he) l14))⟩; have G14 : Hd (w.heap.size ≤ g14) := ⟨Nat.le_trans HBW.out.size l14⟩; simp only [PA, e14]; clear hv hal hne hb HL0 HBW e14 l14 b14; go_upto_region 3 with fail
 refine wp_region_vd 3 [15, 16, 17] [0, 2] [] 63 [.int .i64 0, .int .i64 0] [isV (.slice (some ⟨g14, 0, none⟩) N N), qI ((N : Nat) : Int), qI 0] (by rfl) alloc_Z ?_ ?_
 ·intro qi qh qA aa wx hb hs hd
  match qi, qh, qA with
  | 0, _, _ => exact aL (op_mv rfl (hs 6 rfl)) | 1, _, _ => exact aL (op_lenB3 rfl rfl (hd 0 rfl)) | 2, _, _ => exact aL (op_mv rfl rfl) | qi + 3, h, _ => omega
 intro vs X3 hb hv hal hne; replace HB := Hd.mk (bel_then HB.out hb); replace HE := Hd.mk (HE.out.to hb); have e16 : vs 16 = .int .i64 (((N : Nat) : Int)) := hv 1 (by decide) rfl; have e17 : vs 17 = .int .i64 0 := hv 2 (by decide) rfl; simp only [PA, e16, e17]; clear hv hal hne hb e16 e17; have HE0 : Hd (Env X3 [⟨w.heap.size, 63, [.int .i64 Wd, .int .i64 Ht]⟩, ⟨w.heap.size + 1, 65, [.int .i64 m.x, .int .i64 m.y, .int .i64 m.t, .bool m.f]⟩, ⟨g14, 4, bools (List.replicate N false) ++ rest14⟩]) := ⟨HE.out⟩; go_wp2_with fail
 go_loopw [5, 17] (fun s5 s17 wr => ∃ (i n : Nat) (bs : List Bool), i ≤ N ∧ s17 = .int .i64 i ∧ s5 = .int .i64 n ∧ n ≤ i ∧ Cy (piM Wd Ht m) N bs n ∧ (∀ j, j < i → bs.getD j false = true) ∧ Env wr [⟨w.heap.size, 63, [.int .i64 Wd, .int .i64 Ht]⟩, ⟨w.heap.size + 1, 65, [.int .i64 m.x, .int .i64 m.y, .int .i64 m.t, .bool m.f]⟩, ⟨g14, 4, bools bs ++ rest14⟩] ∧ Below w.heap.size w wr) (fun _ s17 _ => N - (intOf s17).toNat)
 case atStart => exact ⟨0, 0, _, Nat.zero_le _, rfl, rfl, Nat.le_refl _, Cy.start _ _, (fun j hj => by omega), HE0.out, HB.out⟩
 case round =>
  obtain ⟨i, n, bs, hi, rfl, rfl, hni, hcy, hall, he, hb⟩ := hrel; clear HB HE HE0; have HB := Hd.mk hb; have HCY := Hd.mk hcy; have HALL := Hd.mk hall; have HE : Hd (Env wr [⟨w.heap.size, 63, [.int .i64 Wd, .int .i64 Ht]⟩, ⟨w.heap.size + 1, 65, [.int .i64 m.x, .int .i64 m.y, .int .i64 m.t, .bool m.f]⟩, ⟨g14, 4, bools bs ++ rest14⟩]) := ⟨he⟩; have hbl := hcy.len; clear he hb hcy hall; by_cases hj : i < N
  ·skip
   go_upto_region 5 with fail
   refine wp_region_vd 1 [19] [0] [] 63 [.int .i64 0, .int .i64 0] [qI ((i : Nat) : Int)] (by rfl) alloc_Z ?_ ?_
   ·intro qi qh qA aa wx hb hs hd
    match qi, qh, qA with
    | 0, _, _ => exact aL (op_mv rfl (hs 17 rfl)) | qi + 1, h, _ => omega
   intro vs X1 hb hv hal hne; replace HB := Hd.mk (bel_then HB.out hb); replace HE := Hd.mk (HE.out.to hb); have e19 : vs 19 = .int .i64 (((i : Nat) : Int)) := hv 0 (by decide) rfl; simp only [PA, e19]; clear hv hal hne hb e19; cases hv : bs.getD i false
   ·have HV := Hd.mk hv; clear hv; go_upto_region 6 with fail
    refine wp_region_vd 5 [20, 21, 22, 23, 24] [0, 1, 4] [] 63 [.int .i64 0, .int .i64 0] [isV (.slice (some ⟨g14, 0, none⟩) N N), qI ((i : Nat) : Int), isV (.pointer (some ⟨g14, (((i : Nat) : Int)).toNat, none⟩)), qF, qT] (by rfl) alloc_Z ?_ ?_
    ·intro qi qh qA aa wx hb hs hd
     match qi, qh, qA with
     | 0, _, _ => exact aL (op_mv rfl (hs 6 rfl)) | 1, _, _ => exact aL (op_mv rfl (hs 7 rfl)) | 2, _, _ => exact aL (op_run rfl (op_idxB (by omega) (by omega) rfl (hd 0 rfl) (hd 1 rfl) _) rfl) | 3, _, _ => exact aL (wp_b (bool_eq (by rw [Int.toNat_natCast]; exact HV.out)) (op_ldB rfl rfl (hd 2 rfl) (BB.cell ⟨_, (HE.out.to hb).get 2 rfl⟩ (by omega)))) | 4, _, _ => exact aL ⟨_, op_not rfl (hd 3 rfl), rfl⟩ | qi + 5, h, _ => omega
    intro vs X2 hb hv hal hne; replace HB := Hd.mk (bel_then HB.out hb); replace HE := Hd.mk (HE.out.to hb); have e24 : vs 24 = .bool true := hv 4 (by decide) rfl; simp only [PA, e24]; clear hv hal hne hb e24; go_upto_region 7 with fail
    refine wp_region_vd 2 [25, 26] [0, 1] [] 63 [.int .i64 0, .int .i64 0] [qI ((n : Nat) : Int), qI ((n + 1 : Nat) : Int)] (by rfl) alloc_Z ?_ ?_
    ·intro qi qh qA aa wx hb hs hd
     match qi, qh, qA with
     | 0, _, _ => exact aL (op_mv rfl (hs 5 rfl)) | 1, _, _ => exact aL (pure_b (int_eq (by omega)) (⟨_, op_add (by unfold Fit; omega) rfl (hd 0 rfl) rfl, rfl⟩)) | qi + 2, h, _ => omega
    intro vs X3 hb hv hal hne; replace HB := Hd.mk (bel_then HB.out hb); replace HE := Hd.mk (HE.out.to hb); have e26 : vs 26 = .int .i64 (((n + 1 : Nat) : Int)) := hv 1 (by decide) rfl; simp only [PA, e26]; clear hv hal hne hb e26; go_upto_region 8 with fail
    refine wp_region_vd 1 [27] [0] [] 63 [.int .i64 0, .int .i64 0] [qI ((i : Nat) : Int)] (by rfl) alloc_Z ?_ ?_
    ·intro qi qh qA aa wx hb hs hd
     match qi, qh, qA with
     | 0, _, _ => exact aL (op_mv rfl (hs 7 rfl)) | qi + 1, h, _ => omega
    intro vs X4 hb hv hal hne; replace HB := Hd.mk (bel_then HB.out hb); replace HE := Hd.mk (HE.out.to hb); have e27 : vs 27 = .int .i64 (((i : Nat) : Int)) := hv 0 (by decide) rfl; simp only [PA, e27]; clear hv hal hne hb e27; have HFC := Hd.mk (fun (w2 : World) (b2 : List Bool) (hbk : Blk w2 g14 4 (bools b2 ++ rest14)) (hl : b2.length = N) => fc_eq hbk hl); have HCW0 := Hd.mk (Cw.start (i := i) HCY.out); go_wp2_with fail
    go_loopw [8] (fun s8 wr => ∃ (t c : Nat) (b2 : List Bool), Cw (piM Wd Ht m) N bs i t b2 c ∧ s8 = .int .i64 c ∧ Env wr [⟨w.heap.size, 63, [.int .i64 Wd, .int .i64 Ht]⟩, ⟨w.heap.size + 1, 65, [.int .i64 m.x, .int .i64 m.y, .int .i64 m.t, .bool m.f]⟩, ⟨g14, 4, bools b2 ++ rest14⟩] ∧ Below w.heap.size w wr) (fun _ wr => fc g14 N wr)
    case atStart => exact ⟨0, i, bs, HCW0.out, rfl, HE.out, HB.out⟩
    case round =>
     obtain ⟨t, c, b2, hcw, rfl, he, hb⟩ := hrel; clear HB HE; have HB := Hd.mk hb; have HCW := Hd.mk hcw; have HE : Hd (Env wr [⟨w.heap.size, 63, [.int .i64 Wd, .int .i64 Ht]⟩, ⟨w.heap.size + 1, 65, [.int .i64 m.x, .int .i64 m.y, .int .i64 m.t, .bool m.f]⟩, ⟨g14, 4, bools b2 ++ rest14⟩]) := ⟨he⟩; have hbl2 := hcw.len; have hcN : c < N := by rw [hcw.at_]; exact itr_lt (pi_lt HAL.out HN.out) hj t
     clear he hb hcw; have HFCW := Hd.mk (HFC.out wr b2 (HE.out.get 2 rfl) hbl2); cases hv : b2.getD c false
     ·have HV2 := Hd.mk hv; clear hv; go_upto_region 9 with fail
      refine wp_region_vd 5 [28, 29, 30, 31, 32] [0, 1, 4] [] 63 [.int .i64 0, .int .i64 0] [isV (.slice (some ⟨g14, 0, none⟩) N N), qI ((c : Nat) : Int), isV (.pointer (some ⟨g14, (((c : Nat) : Int)).toNat, none⟩)), qF, qT] (by rfl) alloc_Z ?_ ?_
      ·intro qi qh qA aa wx hb hs hd
       match qi, qh, qA with
       | 0, _, _ => exact aL (op_mv rfl (hs 6 rfl)) | 1, _, _ => exact aL (op_mv rfl (hs 8 rfl)) | 2, _, _ => exact aL (op_run rfl (op_idxB (by omega) (by omega) rfl (hd 0 rfl) (hd 1 rfl) _) rfl) | 3, _, _ => exact aL (wp_b (bool_eq (by rw [Int.toNat_natCast]; exact HV2.out)) (op_ldB rfl rfl (hd 2 rfl) (BB.cell ⟨_, (HE.out.to hb).get 2 rfl⟩ (by omega)))) | 4, _, _ => exact aL ⟨_, op_not rfl (hd 3 rfl), rfl⟩ | qi + 5, h, _ => omega
      intro vs X1 hb hv hal hne; replace HB := Hd.mk (bel_then HB.out hb); replace HE := Hd.mk (HE.out.to hb); have e32 : vs 32 = .bool true := hv 4 (by decide) rfl; simp only [PA, e32]; clear hv hal hne hb e32; go_upto_region 11 with fail
      refine wp_region_vd 3 [37, 38, 39] [0, 1] [] 63 [.int .i64 0, .int .i64 0] [isV (.slice (some ⟨g14, 0, none⟩) N N), qI ((c : Nat) : Int), isV (.pointer (some ⟨g14, (((c : Nat) : Int)).toNat, none⟩))] (by rfl) alloc_Z ?_ ?_
      ·intro qi qh qA aa wx hb hs hd
       match qi, qh, qA with
       | 0, _, _ => exact aL (op_mv rfl (hs 6 rfl)) | 1, _, _ => exact aL (op_mv rfl (hs 8 rfl)) | 2, _, _ => exact aL (op_run rfl (op_idxB (by omega) (by omega) rfl (hd 0 rfl) (hd 1 rfl) _) rfl) | qi + 3, h, _ => omega
      intro vs X2 hb hv hal hne; replace HB := Hd.mk (bel_then HB.out hb); replace HE := Hd.mk (HE.out.to hb); have e39 : vs 39 = .pointer (some ⟨g14, (((c : Nat) : Int)).toNat, none⟩) := hv 2 (by decide) rfl; simp only [PA, e39]; clear hv hal hne hb e39; refine wpList_st rfl rfl rfl rfl rfl (sto_BB (b := true) ⟨_, HE.out.get 2 rfl⟩ (by omega)) ?_; have HE' : Env (putL X2 g14 ((((c : Nat) : Int)).toNat) [.bool true]) [⟨w.heap.size, 63, [.int .i64 Wd, .int .i64 Ht]⟩, ⟨w.heap.size + 1, 65, [.int .i64 m.x, .int .i64 m.y, .int .i64 m.t, .bool m.f]⟩, ⟨g14, 4, bools (b2.set ((((c : Nat) : Int)).toNat) true) ++ rest14⟩] := HE.out.putBs (b := true) 2 rfl (by omega); have HB' := putL_below (show w.heap.size ≤ g14 from G14.out) [.bool true] _ ((((c : Nat) : Int)).toNat) HB.out; generalize putL X2 g14 ((((c : Nat) : Int)).toNat) [.bool true] = X3 at *; replace HE := Hd.mk HE'; replace HB := Hd.mk HB'; clear HE' HB'; have HEC : Env X3 [⟨w.heap.size, 63, [.int .i64 Wd, .int .i64 Ht]⟩, ⟨w.heap.size + 1, 65, [.int .i64 m.x, .int .i64 m.y, .int .i64 m.t, .bool m.f]⟩, ⟨g14, 4, bools (b2.set c true) ++ rest14⟩] := by have h := HE.out; simp only [Int.toNat_natCast] at h; exact h
      replace HE := Hd.mk HEC; clear HEC; go_upto_region 10 with fail
      refine wp_region_vd 4 [33, 34, 35, 36] [2] [] 63 [.int .i64 0, .int .i64 0] [isV (.agg #[.int .i64 Wd, .int .i64 Ht]), isV (.agg #[.int .i64 m.x, .int .i64 m.y, .int .i64 m.t, .bool m.f]), qI ((c : Nat) : Int), qI ((piM Wd Ht m c : Nat) : Int)] (by rfl) alloc_Z ?_ ?_
      ·intro qi qh qA aa wx hb hs hd
       match qi, qh, qA with
       | 0, _, _ => exact aL (op_ldZ rfl rfl (hs 2 rfl) ((HE.out.to hb).get 0 rfl)) | 1, _, _ => exact aL (op_ldM rfl rfl (hs 3 rfl) ((HE.out.to hb).get 1 rfl)) | 2, _, _ => exact aL (op_mv rfl (hs 8 rfl)) | 3, _, _ => exact aL (wp_b (int_eq ((pi_cell HAL.out c).symm)) (op_call3 rfl rfl Tryz.call63 (by rw [(show aa.eval (.tmp 33) = .agg #[.int .i64 Wd, .int .i64 Ht] from (hd 0 rfl)), (show aa.eval (.tmp 34) = .agg #[.int .i64 m.x, .int .i64 m.y, .int .i64 m.t, .bool m.f] from (hd 1 rfl)), (show aa.eval (.tmp 35) = .int .i64 (((c : Nat) : Int)) from (hd 2 rfl))]; exact to_got Wd Ht m.x m.y m.t (((c : Nat) : Int)) m.f HAL.out.okm (by omega) _))) | qi + 4, h, _ => omega
      intro vs X4 hb hv hal hne; replace HB := Hd.mk (bel_then HB.out hb); replace HE := Hd.mk (HE.out.to hb); have e36 : vs 36 = .int .i64 (((piM Wd Ht m c : Nat) : Int)) := hv 3 (by decide) rfl; simp only [PA, e36]; clear hv hal hne hb e36; go_wp2_with fail
      go_roundw
      case rel => exact ⟨t + 1, _, _, HCW.out.step (pi_lt HAL.out HN.out) hj HV2.out, rfl, HE.out, HB.out⟩
      case measure =>
       rw [HFC.out _ (b2.set c true) (HE.out.get 2 rfl) (by rw [List.length_set]; exact hbl2)]; rw [HFCW.out]; exact count_set_b (by omega) HV2.out
     have HV2 := Hd.mk hv; clear hv; have HD := Hd.mk (HCW.out.done (pi_lt HAL.out HN.out) HCY.out hj HV.out HV2.out (pi_inj HAL.out HN.out)); go_upto_region 9 with fail
     refine wp_region_vd 5 [28, 29, 30, 31, 32] [0, 1, 4] [] 63 [.int .i64 0, .int .i64 0] [isV (.slice (some ⟨g14, 0, none⟩) N N), qI ((c : Nat) : Int), isV (.pointer (some ⟨g14, (((c : Nat) : Int)).toNat, none⟩)), qT, qF] (by rfl) alloc_Z ?_ ?_
     ·intro qi qh qA aa wx hb hs hd
      match qi, qh, qA with
      | 0, _, _ => exact aL (op_mv rfl (hs 6 rfl)) | 1, _, _ => exact aL (op_mv rfl (hs 8 rfl)) | 2, _, _ => exact aL (op_run rfl (op_idxB (by omega) (by omega) rfl (hd 0 rfl) (hd 1 rfl) _) rfl) | 3, _, _ => exact aL (wp_b (bool_eq (by rw [Int.toNat_natCast]; exact HV2.out)) (op_ldB rfl rfl (hd 2 rfl) (BB.cell ⟨_, (HE.out.to hb).get 2 rfl⟩ (by omega)))) | 4, _, _ => exact aL ⟨_, op_not rfl (hd 3 rfl), rfl⟩ | qi + 5, h, _ => omega
     intro vs X1 hb hv hal hne; replace HB := Hd.mk (bel_then HB.out hb); replace HE := Hd.mk (HE.out.to hb); have e32 : vs 32 = .bool false := hv 4 (by decide) rfl; simp only [PA, e32]; clear hv hal hne hb e32; go_wp2_with fail
     go_roundw
     case rel => exact ⟨i + 1, n + 1, b2, by omega, by go_num, rfl, by omega, HD.out.1, (fun j hj2 => by
      rcases Nat.lt_or_ge j i with h | h
      ·exact HD.out.2.2 j (by omega) (HALL.out j h)
      obtain rfl : j = i := by omega
      exact HD.out.2.1), HE.out, HB.out⟩
     case measure => simp [intOf]; omega
   have HV := Hd.mk hv; clear hv; go_upto_region 6 with fail
   refine wp_region_vd 5 [20, 21, 22, 23, 24] [0, 1, 4] [] 63 [.int .i64 0, .int .i64 0] [isV (.slice (some ⟨g14, 0, none⟩) N N), qI ((i : Nat) : Int), isV (.pointer (some ⟨g14, (((i : Nat) : Int)).toNat, none⟩)), qT, qF] (by rfl) alloc_Z ?_ ?_
   ·intro qi qh qA aa wx hb hs hd
    match qi, qh, qA with
    | 0, _, _ => exact aL (op_mv rfl (hs 6 rfl)) | 1, _, _ => exact aL (op_mv rfl (hs 7 rfl)) | 2, _, _ => exact aL (op_run rfl (op_idxB (by omega) (by omega) rfl (hd 0 rfl) (hd 1 rfl) _) rfl) | 3, _, _ => exact aL (wp_b (bool_eq (by rw [Int.toNat_natCast]; exact HV.out)) (op_ldB rfl rfl (hd 2 rfl) (BB.cell ⟨_, (HE.out.to hb).get 2 rfl⟩ (by omega)))) | 4, _, _ => exact aL ⟨_, op_not rfl (hd 3 rfl), rfl⟩ | qi + 5, h, _ => omega
   intro vs X2 hb hv hal hne; replace HB := Hd.mk (bel_then HB.out hb); replace HE := Hd.mk (HE.out.to hb); have e24 : vs 24 = .bool false := hv 4 (by decide) rfl; simp only [PA, e24]; clear hv hal hne hb e24; go_upto_region 8 with fail
   refine wp_region_vd 1 [27] [0] [] 63 [.int .i64 0, .int .i64 0] [qI ((i : Nat) : Int)] (by rfl) alloc_Z ?_ ?_
   ·intro qi qh qA aa wx hb hs hd
    match qi, qh, qA with
    | 0, _, _ => exact aL (op_mv rfl (hs 7 rfl)) | qi + 1, h, _ => omega
   intro vs X3 hb hv hal hne; replace HB := Hd.mk (bel_then HB.out hb); replace HE := Hd.mk (HE.out.to hb); have e27 : vs 27 = .int .i64 (((i : Nat) : Int)) := hv 0 (by decide) rfl; simp only [PA, e27]; clear hv hal hne hb e27; go_wp2_with fail
   go_loopw [8] (fun s8 wr => s8 = .int .i64 i ∧ Env wr [⟨w.heap.size, 63, [.int .i64 Wd, .int .i64 Ht]⟩, ⟨w.heap.size + 1, 65, [.int .i64 m.x, .int .i64 m.y, .int .i64 m.t, .bool m.f]⟩, ⟨g14, 4, bools bs ++ rest14⟩] ∧ Below w.heap.size w wr) (fun _ _ => 0)
   case atStart => exact ⟨rfl, HE.out, HB.out⟩
   case round =>
    obtain ⟨rfl, he, hb⟩ := hrel; clear HB HE; have HB := Hd.mk hb; have HE : Hd (Env wr [⟨w.heap.size, 63, [.int .i64 Wd, .int .i64 Ht]⟩, ⟨w.heap.size + 1, 65, [.int .i64 m.x, .int .i64 m.y, .int .i64 m.t, .bool m.f]⟩, ⟨g14, 4, bools bs ++ rest14⟩]) := ⟨he⟩; clear he hb; go_upto_region 9 with fail
    refine wp_region_vd 5 [28, 29, 30, 31, 32] [0, 1, 4] [] 63 [.int .i64 0, .int .i64 0] [isV (.slice (some ⟨g14, 0, none⟩) N N), qI ((i : Nat) : Int), isV (.pointer (some ⟨g14, (((i : Nat) : Int)).toNat, none⟩)), qT, qF] (by rfl) alloc_Z ?_ ?_
    ·intro qi qh qA aa wx hb hs hd
     match qi, qh, qA with
     | 0, _, _ => exact aL (op_mv rfl (hs 6 rfl)) | 1, _, _ => exact aL (op_mv rfl (hs 8 rfl)) | 2, _, _ => exact aL (op_run rfl (op_idxB (by omega) (by omega) rfl (hd 0 rfl) (hd 1 rfl) _) rfl) | 3, _, _ => exact aL (wp_b (bool_eq (by rw [Int.toNat_natCast]; exact HV.out)) (op_ldB rfl rfl (hd 2 rfl) (BB.cell ⟨_, (HE.out.to hb).get 2 rfl⟩ (by omega)))) | 4, _, _ => exact aL ⟨_, op_not rfl (hd 3 rfl), rfl⟩ | qi + 5, h, _ => omega
    intro vs X1 hb hv hal hne; replace HB := Hd.mk (bel_then HB.out hb); replace HE := Hd.mk (HE.out.to hb); have e32 : vs 32 = .bool false := hv 4 (by decide) rfl; simp only [PA, e32]; clear hv hal hne hb e32; go_wp2_with fail
    go_roundw
    case rel => exact ⟨i + 1, n, bs, by omega, by go_num, rfl, by omega, HCY.out, (fun j hj2 => by
     rcases Nat.lt_or_ge j i with h | h
     ·exact HALL.out j h
     obtain rfl : j = i := by omega
     exact HV.out), HE.out, HB.out⟩
    case measure => simp [intOf]; omega
  have e1 : i = N := by omega
  have HCN : Hd (cyN Wd Ht N m = n) := ⟨cyc_eq HAL.out HN.out (HCY.out.all fun j hj2 => HALL.out j (by omega))⟩; go_wp2_with fail
  go_ret
  exact ⟨_, rfl, HB.out, by rw [HCN.out]; rfl⟩
end Go.Proofs.YtddbmckbankmeaaGreat
