/- The row of FnExactFsNew: for every input the law returns true and its arguments read as before; no condition. The walk is FnExactFsNew_walk. -/
import Derived.Test.YtgeifmdcoiijgaaMgFsNew2
import Derived.ProofKit
import Derived.OpenShut
import Derived.ShutString
import Derived.ChangeOld
import Derived.Below
namespace Go.Proofs.Ytgeifmdcoiijgaa.fnExactFsNew
open Go.ChangeShapes Go.WideShapes Go.ChangeAt Go.RowKit
open Go.ChangeMaps (open_string shut_string)
set_option linter.unusedVariables false

theorem own : ownKnob Try.prog.godebug = none := by kernel_rfl
theorem laidOut : laidOutB Try.prog = true := by kernel_rfl

set_option maxRecDepth 100000 in
theorem lifted (os : Os) (started : os.Started) (H : Type) (enc : TypeId × Value → H) :
    ReturnsInHanded {} Try.checked os 3 .any (Rows.fnExactFsNewSpec.pre6 enc Try.prog Try.f3 Rows.fnExactFsNewRow.domain false) (Rows.fnExactFsNewSpec.post enc Try.prog Try.f3 false true false false) := by
  refine returnsInHanded_of_change (C := Try.checked) own started (by kernel_rfl) Try.func3
    (ChangeSpec.witness6 (enc := enc) (C := Try.checked) false ⟨#[], #[], []⟩ 8 (by kernel_rfl) (by kernel_rfl) (by kernel_rfl) (by kernel_rfl)) ?_
  intro W base args ds gs before hval0 hW hcnd _
  have hval : ∀ (j : Nat) t v, Try.f3.params[j]? = some t → args[j]? = some v → Value.okWide Try.prog W .any base t v := hval0
  have hW' := hW
  obtain ⟨p, q, hA0, hV, rfl, hfz, hnd⟩ := hW
  have hA : DataW.TrodAll enc Try.prog W 0 (fun _ => true) true Try.f3.params.toList args.toList ds p := hA0
  rw [Try.params3] at hA hval
  obtain ⟨rfl, rfl, rfl⟩ := trodAll_none hA
  obtain ⟨rfl, rfl⟩ := trodVars_none hV
  clear hA0 hval0
  refine (FnExactFsNew_walk W ).mono fun e W' ⟨he, bel⟩ => ?_
  subst he
  exact ⟨_, rfl, _, _, _, [], _, [], hW', trodAll_mk1 (shut_bool Try.underlying4 _), trodAll_mk0, rfl, bel.frame _, fun h => by cases h⟩

theorem tI : (Rows.fnExactFsNewRow.inPlace == Try.prog.inPlace 3) = true := by kernel_rfl
theorem tU : (Rows.fnExactFsNewRow.unfollowed == Try.prog.unfollowed 3) = true := by kernel_rfl
theorem tR : (Rows.fnExactFsNewRow.recurses == Try.prog.recurses 3) = true := by kernel_rfl
theorem tN : (Rows.fnExactFsNewRow.named == Try.prog.varsNamed 3) = true := by kernel_rfl
theorem closed : joinedFacts Try.prog 3 Try.f3 Rows.fnExactFsNewSpec Rows.fnExactFsNewRow = true := by
  unfold joinedFacts
  rw [tI, tU, tR, tN, jEnter, jMake, jFinal]
  kernel_rfl

theorem over : Rows.fnExactFsNewRow.holds Try.pinned (OpenSpec.ofChange Rows.fnExactFsNewSpec) :=
  OpenClaim.holds_of_wide 3 Try.f3 rfl rfl rfl rfl rfl rfl rfl ⟨rfl, rfl, rfl, rfl, rfl⟩ rfl rfl rfl rfl rfl (by kernel_rfl) Try.func3 closed
    (of_decide_eq_true (by kernel_rfl)) (by unfold Func.isWrapper; rw [if_neg (by decide +kernel)]; exact ⟨rfl, rfl⟩)
    (fun os started H enc _ => lifted os started H enc)

theorem proved : Rows.FnExactFsNewSaid := over
#print axioms proved
end Go.Proofs.Ytgeifmdcoiijgaa.fnExactFsNew
