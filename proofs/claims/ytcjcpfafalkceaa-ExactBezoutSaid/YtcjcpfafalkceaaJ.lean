/- Which Ints are valid. -/
import Derived.Test.YtcjcpfafalkceaaI
set_option linter.unusedVariables false
namespace Go.Proofs.Ytcjcpfafalkceaa
open Go.RowKit
/-- An Int as it came in: its sign, its words (any). -/
structure Raw where
  neg : Bool
  A : Option Addr
  c : Nat
  xs : List Nat
/-- Is it one in its only form? -/
def Raw.ok (r : Raw) : Bool := decide (r.xs.length ≤ 256) && (!(decide (r.xs.length = 0) && r.neg)) && (!(decide (0 < r.xs.length) && decide (r.xs.getD (r.xs.length - 1) 0 = 0)))
/-- How an Int lies in the world. -/
def Raw.at_ (r : Raw) (w : World) : Prop := RN w r.A r.xs ∧ Dg r.xs ∧ r.xs.length ≤ r.c ∧ r.c ≤ 9223372036854775807
theorem Raw.at_to {r : Raw} {w w' : World} (h : r.at_ w) (hb : Below w.heap.size w w') : r.at_ w' := ⟨h.1.to hb, h.2⟩
/-- A slice of Ints in one block. -/
def RawsAt (rs : List Raw) (g : Nat) (w : World) : Prop := ∀ i r, rs[i]? = some r → w.cell? ⟨g, i * 2, none⟩ = some (.bool r.neg) ∧ w.cell? ⟨g, i * 2 + 1, none⟩ = some (.slice r.A r.xs.length r.c) ∧ r.at_ w
theorem RawsAt.to {rs : List Raw} {g : Nat} {w w' : World} (h : RawsAt rs g w) (hb : Below w.heap.size w w') : RawsAt rs g w' := fun i r hr => by
  obtain ⟨a, b, c⟩ := h i r hr
  exact ⟨(hb.cell (World.block_lt_of_cell? w _ a)).trans a, (hb.cell (World.block_lt_of_cell? w _ b)).trans b, Raw.at_to c hb⟩
theorem all_no {rs : List Raw} {k : Nat} {r : Raw} (h : rs[k]? = some r) (hr : r.ok = false) : false = rs.all Raw.ok := by
  symm
  rw [List.all_eq_false]
  exact ⟨r, List.mem_of_getElem? h, by simp [hr]⟩
theorem all_yes {rs : List Raw} {k : Nat} {r : Raw} (h : rs[k]? = some r) (hr : r.ok = true) (ha : (rs.take k).all Raw.ok = true) : (rs.take (k + 1)).all Raw.ok = true := by
  rw [List.take_add_one, h, List.all_append, ha]
  simp [hr]
set_option maxHeartbeats 1000000 in
set_option maxRecDepth 100000 in
theorem valid_calls (rs : List Raw) (g n : Nat) (w : World) (h : RawsAt rs g w) (hn : rs.length = n) (hn2 : n ≤ 2) :
    Calls Try.prog 68 #[.slice (some ⟨g, 0, none⟩) n n] w fun e w' => e = .returned (.bool (rs.all Raw.ok)) ∧ Below w.heap.size w w' := by
  have H := Hd.mk h
  have HN := Hd.mk hn
  clear h hn
  go_enter Try.func68, Try.ntmps68
  go_wp2
  go_loopw [8] (fun s wr => ∃ k : Nat, k ≤ n ∧ s = .int .i64 k ∧ (rs.take k).all Raw.ok = true ∧ Below w.heap.size w wr) (fun s _ => n - (intOf s).toNat)
  case atStart => exact ⟨0, Nat.zero_le _, rfl, rfl, Below.refl _ _⟩
  case round =>
    obtain ⟨k, hk, rfl, hall, hbel⟩ := hrel
    have HA := Hd.mk hall
    have HB := Hd.mk hbel
    clear hall hbel
    by_cases hlt : k < n
    · obtain ⟨r, hr⟩ : ∃ r, rs[k]? = some r := ⟨_, List.getElem?_eq_getElem (by have := HN.out; omega)⟩
      obtain ⟨hc0, hc1, hat⟩ := (H.out.to HB.out) k r hr
      have HR := Hd.mk hr
      clear hr
      obtain ⟨neg, A, c, xs⟩ := r
      obtain ⟨hrn, hdg, hlc, hcm⟩ := hat
      simp only at hc0 hc1 hrn hdg hlc hcm
      have HRN := Hd.mk hrn
      have HDG := Hd.mk hdg
      clear hrn hdg
      by_cases h256 : 256 < xs.length
      · have hno : Raw.ok ⟨neg, A, c, xs⟩ = false := by
          unfold Raw.ok
          rw [decide_eq_false (show ¬ xs.length ≤ 256 by omega)]; rfl
        have HNO := Hd.mk (all_no HR.out hno)
        clear hno
        have hi : (256 : Int) < (xs.length : Int) := by omega
        go_wp2_with fail
        go_ret
        exact ⟨ret_bool HNO.out, by repeat (first | exact HB.out | exact Below.refl _ _ | refine below_alloc ?_ _ | refine below_drewN ?_ _ | refine below_drew ?_ | refine below_set ?_ (by first | exact Nat.le_refl _ | omega | (simp; done) | (simp; omega)) _)⟩
      · have hi : ¬ (256 : Int) < (xs.length : Int) := by omega
        rcases xs with _ | ⟨x0, xt⟩
        · rcases neg with _ | _
          · have HY := Hd.mk (all_yes HR.out (show Raw.ok ⟨false, A, c, []⟩ = true from rfl) HA.out)
            go_wp2_with fail
            go_roundw
            case rel => exact ⟨k + 1, by omega, by go_num, HY.out, by repeat (first | exact HB.out | exact Below.refl _ _ | refine below_alloc ?_ _ | refine below_drewN ?_ _ | refine below_drew ?_ | refine below_set ?_ (by first | exact Nat.le_refl _ | omega | (simp; done) | (simp; omega)) _)⟩
            case measure => simp [intOf]; omega
          · have HNO := Hd.mk (all_no HR.out (show Raw.ok ⟨true, A, c, []⟩ = false from rfl))
            go_wp2_with fail
            go_ret
            exact ⟨ret_bool HNO.out, by repeat (first | exact HB.out | exact Below.refl _ _ | refine below_alloc ?_ _ | refine below_drewN ?_ _ | refine below_drew ?_ | refine below_set ?_ (by first | exact Nat.le_refl _ | omega | (simp; done) | (simp; omega)) _)⟩
        · obtain ⟨m, hm⟩ : ∃ m, m = (x0 :: xt).length := ⟨_, rfl⟩
          have hm0 : 0 < m := by rw [hm]; simp
          obtain ⟨ad, rfl, hcell⟩ := (HRN.out.to (below_alloc (Below.refl _ _) (.cells #[.bool neg, .slice A (x0 :: xt).length c] 24))).at_ (k := m - 1) (by omega)
          obtain ⟨y, hy⟩ : ∃ y, y = (x0 :: xt).getD (m - 1) 0 := ⟨_, rfl⟩
          rw [← hy] at hcell
          rw [← hm] at hc1 hi hlc h256 hcell
          have HMM := Hd.mk hm
          have HYY := Hd.mk hy
          have hm1 : ((m : Int) == 0) = false := by rw [beq_eq_false_iff_ne]; omega
          clear hm hy
          by_cases hy0 : y = 0
          · have hno : Raw.ok ⟨neg, some ad, c, x0 :: xt⟩ = false := by
              unfold Raw.ok
              simp only [← HMM.out, ← HYY.out, hy0]
              rw [decide_eq_true hm0]
              simp
            have HNO := Hd.mk (all_no HR.out hno)
            subst hy0
            clear hno
            go_wp2_with fail
            go_ret
            exact ⟨ret_bool HNO.out, by repeat (first | exact HB.out | exact Below.refl _ _ | refine below_alloc ?_ _ | refine below_drewN ?_ _ | refine below_drew ?_ | refine below_set ?_ (by first | exact Nat.le_refl _ | omega | (simp; done) | (simp; omega)) _)⟩
          · have hyes : Raw.ok ⟨neg, some ad, c, x0 :: xt⟩ = true := by
              unfold Raw.ok
              simp only [← HMM.out, ← HYY.out]
              rw [decide_eq_true (show m ≤ 256 by omega), decide_eq_false (show ¬ m = 0 by omega), decide_eq_false hy0]
              simp
            have HY := Hd.mk (all_yes HR.out hyes HA.out)
            have hy1 : ((y : Int) == 0) = false := by rw [beq_eq_false_iff_ne]; omega
            clear hyes hy0
            go_wp2_with fail
            go_roundw
            case rel => exact ⟨k + 1, by omega, by go_num, HY.out, by repeat (first | exact HB.out | exact Below.refl _ _ | refine below_alloc ?_ _ | refine below_drewN ?_ _ | refine below_drew ?_ | refine below_set ?_ (by first | exact Nat.le_refl _ | omega | (simp; done) | (simp; omega)) _)⟩
            case measure => simp [intOf]; omega
    · have hke : k = n := by omega
      subst hke
      go_wp2
      go_ret
      refine ⟨ret_bool ?_, HB.out⟩
      rw [← HA.out, List.take_of_length_le (by have := HN.out; omega)]
end Go.Proofs.Ytcjcpfafalkceaa
