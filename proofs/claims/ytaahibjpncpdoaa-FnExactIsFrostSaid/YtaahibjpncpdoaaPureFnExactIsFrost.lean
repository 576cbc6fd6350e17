/- The law FnExactIsFrost of the given program is proved: for every input of its types that can be read, the call returns true and leaves its arguments as they were. No further condition. -/
import Derived.Test.YtaahibjpncpdoaaPFnExactIsFrostx1
namespace Go.Proofs.Ytaahibjpncpdoaa.Pure
open Go.RowKit Go.Proofs.Ytaahibjpncpdoaa.PFnExactIsFrost Go.Proofs.YtaahibjpncpdoaaW.PrintWords Go.Proofs.YtaahibjpncpdoaaW.PrintLast
set_option linter.unusedVariables false
set_option linter.unusedSimpArgs false
theorem l01in (a b c : Int) : spec_l01In.f a b c = some (decide (b ≤ a ∧ a ≤ c)) := by
  unfold spec_l01In.f
  by_cases h : a ≥ b
  · rw [if_pos h]; simp [h]
  · rw [if_neg h]; simp [show ¬ b ≤ a from h]

theorem spec_frost (a b : Int) : spec_IsFrost.f a b = some (decide (0 ≤ a) && (decide (a ≤ 2000) && (decide (0 ≤ b) && (decide (b ≤ 360) && decide (a % 360 < b))))) := by
  unfold spec_IsFrost.f
  rw [l01in]
  simp only [Option.bind_some]
  by_cases h : 0 ≤ a ∧ a ≤ 2000
  · rw [if_pos (decide_eq_true h), l01in]
    simp only [Option.bind_some]
    rw [decide_eq_true h.1, decide_eq_true h.2]
    by_cases h2 : 0 ≤ b ∧ b ≤ 360
    · rw [if_pos (decide_eq_true h2), decide_eq_true h2.1, decide_eq_true h2.2, Int.tmod_eq_emod_of_nonneg h.1]
      rfl
    · rw [if_neg (by simpa using h2)]
      simp; omega
  · rw [if_neg (by simpa using h)]
    simp; omega

theorem FnExactIsFrost : laws_FnExactIsFrost.Pure := by
  intro a b _ _
  unfold laws_FnExactIsFrost.f impl_IsFrost.f
  rw [spec_frost]
  simp
end Go.Proofs.Ytaahibjpncpdoaa.Pure
