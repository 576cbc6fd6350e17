/- The law FnExactActOk of the given program is proved: for every input of its types that can be read, the call returns true and leaves its arguments as they were. No further condition. -/
import Derived.Test.YtaahibjpncpdoaaPFnExactActOkx1
namespace Go.Proofs.Ytaahibjpncpdoaa.Pure
open Go.RowKit Go.Proofs.Ytaahibjpncpdoaa.PFnExactActOk Go.Proofs.YtaahibjpncpdoaaW.PrintWords Go.Proofs.YtaahibjpncpdoaaW.PrintLast
set_option linter.unusedVariables false
set_option linter.unusedSimpArgs false
theorem same : spec_ActOk.f = impl_ActOk.f := rfl
theorem wends (a b c : Int) : ∃ r, impl_within.f a b c = some r := by
  unfold impl_within.f
  split <;> exact ⟨_, rfl⟩
theorem ends (a b c : Int) : ∃ r, impl_ActOk.f a b c = some r := by
  obtain ⟨r1, h1⟩ := wends b 0 7
  obtain ⟨r2, h2⟩ := wends c 0 200
  obtain ⟨r3, h3⟩ := wends b 1 400
  obtain ⟨r4, h4⟩ := wends c 0 10000
  unfold impl_ActOk.f
  simp only [h1, h2, h3, h4, Option.bind_some]
  repeat' split
  all_goals exact ⟨_, rfl⟩
theorem FnExactActOk : laws_FnExactActOk.Pure := by
  intro a b c _ _ _
  obtain ⟨r, hr⟩ := ends a b c
  unfold laws_FnExactActOk.f laws_toAct.f
  simp only [Option.bind_some, same, hr]
  simp
end Go.Proofs.Ytaahibjpncpdoaa.Pure
