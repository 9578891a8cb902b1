/- The row of the law ExactParses. -/
import Derived.Test.YtdfhhceboacdcaaDoorRows
import Derived.Test.YtdfhhceboacdcaaDoorTie
import Derived.Test.YtdfhhceboacdcaaDoorCards
import Derived.Test.YtdfhhceboacdcaaDoorDq9
import Derived.WalkKit
import Derived.ProofKit
import Derived.OpenShut
import Derived.ShutString
import Derived.ChangeOld
import Derived.Below
import Derived.SizedLaws
import Derived.LaidLaws
import Derived.JoinedOf
import Derived.SevenTiedAt
set_option linter.unusedVariables false
namespace Go.Proofs.YtdfhhceboacdcaaDoor.exactParses
open Go.ChangeShapes Go.WideShapes Go.ChangeAt Go.RowKit
open Go.ChangeMaps (open_string shut_string)
theorem own : ownKnob Tryd.prog.godebug = none := by kernel_rfl
theorem laidOut : laidOutB Tryd.prog = true := by kernel_rfl
def lay (d : DataW Unit) : Obj → Obj
  | .cells _ t f => .cells (match d with | .agg l => (l.filterMap fun x => match x with | .lit (.int k z) => some (Value.int k z) | _ => none).toArray | _ => #[]) t f
  | o => o
noncomputable def laidWorld (os : Os) : World := { World.holding Tryd.prog os ⟨#[], #[], []⟩ with heap := ((((World.holding Tryd.prog os ⟨#[], #[], []⟩).heap.modify 2 (lay (Rows.laid_math_bits_deBruijn32tab : DataW Unit))).modify 3 (lay (Rows.laid_math_bits_deBruijn64tab : DataW Unit))).modify 0 (lay (Rows.laid_internal_strconv_uint64pow10 : DataW Unit))) }
theorem laidWorld_met (os : Os) (args : Array Value) : laidMet Tryd.prog Rows.exactParsesRow.laid ((laidWorld os).forCall (fun _ _ => 0) ⟨#[], args, []⟩).memory :=
  laidMet_of_run' 8 (by kernel_rfl) (by kernel_rfl)
theorem laidMet_tl {P : Program} {W : World} {x : String × DataW Unit} {rest : List (String × DataW Unit)} (h : laidMet P (x :: rest) W) : laidMet P rest W := by
  obtain ⟨ps, h1, h2, h3⟩ := h
  obtain ⟨n, d⟩ := x
  obtain ⟨g, t, cs, fuel, p, q, _, _, _, _, h5, rfl⟩ := h1
  exact ⟨q, h5, (List.nodup_append.1 h2).2.1, fun b off hm => h3 b off (List.mem_append_right _ hm)⟩
theorem tab_of {W : World} (hL : laidMet Tryd.prog Rows.exactParsesRow.laid W) : Tab W :=
  Go.Lib.tabIs_of_head (rest := []) (g := 0) (t := 109) (e := 39) (n := 20) (by kernel_rfl) (by kernel_rfl) Tryd.underlying109 Tryd.underlying39 (by kernel_rfl) (by kernel_rfl) (laidMet_tl (laidMet_tl hL))
set_option maxRecDepth 100000 in
theorem lifted (os : Os) (started : os.Started) (H : Type) (enc : TypeId × Value → H) :
    ReturnsInHanded {} Tryd.checked os 3 .any (fun w args => (Rows.exactParsesSpec.pre enc Tryd.prog Tryd.f3 Rows.exactParsesRow.domain false w args ∧ laidMet Tryd.prog Rows.exactParsesRow.laid w) ∧ sizedMet enc Tryd.prog Tryd.f3 (OpenSpec.ofChange Rows.exactParsesSpec) false w args) (Rows.exactParsesSpec.post enc Tryd.prog Tryd.f3 false true false false) := by
  refine returnsInHanded_of_change_and (C := Tryd.checked) (X := fun w _ => laidMet Tryd.prog Rows.exactParsesRow.laid w) (fun _ _ _ hh h => h.of_heap hh) own started (by kernel_rfl) Tryd.func3
    (ChangeSpec.witness_at (enc := enc) (C := Tryd.checked) (os := os) (X := fun w _ => laidMet Tryd.prog Rows.exactParsesRow.laid w) false (laidWorld os) #[.string ByteArray.empty] 8 rfl (by kernel_rfl) (by kernel_rfl) (by kernel_rfl) (by kernel_rfl) (by kernel_rfl) (laidWorld_met os _)) ?_
  intro W base args ds gs before hval0 hW hcnd hsz0 hL _
  have hsz : (DataW.weightsEach Tryd.prog (Tryd.f3.params.toList ++ Rows.exactParsesSpec.plain.varTypes Tryd.prog) (ds ++ gs)).all (· ≤ reachBytes) = true := hsz0
  have hval : ∀ (j : Nat) t v, Tryd.f3.params[j]? = some t → args[j]? = some v → Value.okWide Tryd.prog W .any base t v := hval0
  have hW' := hW
  obtain ⟨p, q, hA0, hV, rfl, hfz, hnd⟩ := hW
  have hA : DataW.TrodAll enc Tryd.prog W 0 (fun _ => true) true Tryd.f3.params.toList args.toList ds p := hA0
  rw [Tryd.params3] at hA hval hsz
  obtain ⟨v0, vs0, d0, ds0, p0, q0, hargs, rfl, rfl, h0, r0⟩ := trodAll_cons hA
  obtain ⟨rfl, rfl, rfl⟩ := trodAll_nil r0
  obtain rfl : args = #[v0] := by cases args; simp_all
  obtain ⟨rfl, rfl⟩ := trodVars_none hV
  obtain ⟨a0, rfl, rfl, rfl, y0⟩ := open_string Tryd.underlying9 (hval 0 9 v0 rfl rfl) h0
  have w0 : a0.size ≤ 140737488351232 := by
    have z := sized_string hsz (j := 0) (t := 9) rfl rfl
    rw [Array.length_toList] at z
    exact z
  clear hA0 hval0 hsz0 hsz
  refine (ExactParses_walk a0 W w0 (tab_of hL)).mono fun e W' ⟨he, bel⟩ => ?_
  subst he
  exact ⟨_, rfl, _, _, _, [], _, [], hW', trodAll_mk1 (shut_bool Tryd.underlying4 _), (trodAll_cons_mk (shut_string Tryd.underlying9 y0) trodAll_mk0), rfl, bel.frame _, fun h => by cases h⟩
theorem over : Rows.exactParsesRow.holds Tryd.pinned (OpenSpec.ofChange Rows.exactParsesSpec) :=
  OpenClaim.holds_of_wide 3 Tryd.f3 rfl rfl rfl rfl rfl rfl rfl ⟨rfl, rfl, rfl, rfl, rfl⟩ rfl rfl rfl rfl rfl (by kernel_rfl) Tryd.func3 (by kernel_rfl)
    (of_decide_eq_true (by kernel_rfl)) (by unfold Func.isWrapper; first | (rw [if_pos (by decide +kernel)]; kernel_rfl) | (rw [if_neg (by decide +kernel)]; exact ⟨rfl, rfl⟩))
    (fun os started H enc _ => lifted os started H enc)
theorem card : Claim7.holds Tryd.pinned (.plain (OpenSpec.ofChange Rows.exactParsesSpec)) Rows.exactParsesCard :=
  Claim7.holds_tied_plain_at .later [] [.data, .data, .data] true (true, "a0c1ad14fadebd31ef06f43823bf08318135dfcf464fc9a0fa1f4a0bf2609e02") false
    over (fun _ h => by cases h) (by kernel_rfl) (fun _ h => by cases h) exactParses_row_tie rfl ⟨rfl, rfl⟩ (by kernel_rfl) rfl
    (fun f fn hf hfn => by
      obtain rfl : f = 3 := Option.some.inj ((show Tryd.prog.funcNamed Rows.exactParsesRow.func = some 3 by kernel_rfl).symm.trans hf) |>.symm
      obtain rfl : fn = Tryd.f3 := (Option.some.inj (Tryd.func3.symm.trans hfn)).symm
      refine ⟨by kernel_rfl, fun j t ht => ?_⟩
      rw [Tryd.params3] at ht
      have ht' := Array.mem_of_getElem? ht
      simp at ht'
      have hs0 : Tryd.prog.wantsStandIn 9 = false := by kernel_rfl
      rcases ht' with rfl
      all_goals first | exact hs0)
    (by kernel_rfl)
end Go.Proofs.YtdfhhceboacdcaaDoor.exactParses
namespace Go.Proofs.YtdfhhceboacdcaaDoor
/-- The row, under a short name, for the claim. -/
theorem exactParses_holds : Rows.ExactParsesCardSaid := exactParses.card
end Go.Proofs.YtdfhhceboacdcaaDoor
#print axioms Go.Proofs.YtdfhhceboacdcaaDoor.exactParses_holds
