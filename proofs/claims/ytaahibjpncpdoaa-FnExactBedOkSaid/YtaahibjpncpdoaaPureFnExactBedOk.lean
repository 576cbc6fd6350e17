/- The law FnExactBedOk of the given program is proved: for every input of its types that can be read, the call returns true and leaves its arguments as they were. No further condition. -/
import Derived.Test.YtaahibjpncpdoaaPFnExactBedOkx1
namespace Go.Proofs.Ytaahibjpncpdoaa.Pure
open Go.RowKit Go.Proofs.Ytaahibjpncpdoaa.PFnExactBedOk Go.Proofs.YtaahibjpncpdoaaW.PrintWords Go.Proofs.YtaahibjpncpdoaaW.PrintLast
set_option linter.unusedVariables false
set_option linter.unusedSimpArgs false
theorem same : spec_BedOk.f = impl_BedOk.f := rfl
theorem ends (a b : Int) : ∃ r, impl_BedOk.f a b = some r := by
  unfold impl_BedOk.f impl_within.f
  by_cases h : (0 : Int) ≤ a
  · rw [if_pos h]
    simp only [Option.bind_some]
    by_cases h1 : a ≤ 1000
    · rw [decide_eq_true h1, if_pos rfl]
      by_cases h2 : (0 : Int) ≤ b
      · rw [if_pos h2]; exact ⟨_, rfl⟩
      · rw [if_neg h2]; exact ⟨_, rfl⟩
    · rw [decide_eq_false h1]; exact ⟨_, rfl⟩
  · rw [if_neg h]; exact ⟨_, rfl⟩
theorem FnExactBedOk : laws_FnExactBedOk.Pure := by
  intro a b _ _
  obtain ⟨r, hr⟩ := ends a b
  unfold laws_FnExactBedOk.f laws_toBed.f
  simp only [Option.bind_some, same, hr]
  simp
end Go.Proofs.Ytaahibjpncpdoaa.Pure
