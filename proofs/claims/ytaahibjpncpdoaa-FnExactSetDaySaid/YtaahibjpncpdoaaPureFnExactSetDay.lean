/- The law FnExactSetDay of the given program is proved: for every input of its types that can be read, the call returns true and leaves its arguments as they were. No further condition. -/
import Derived.Test.YtaahibjpncpdoaaPFnExactSetDayx1
namespace Go.Proofs.Ytaahibjpncpdoaa.Pure
open Go.RowKit Go.Proofs.Ytaahibjpncpdoaa.PFnExactSetDay Go.Proofs.YtaahibjpncpdoaaW.PrintWords Go.Proofs.YtaahibjpncpdoaaW.PrintLast
set_option linter.unusedVariables false
set_option linter.unusedSimpArgs false
theorem l01in (a b c : Int) : spec_l01In.f a b c = some (decide (b ≤ a ∧ a ≤ c)) := by
  unfold spec_l01In.f
  by_cases h : a ≥ b
  · rw [if_pos h]; simp [h]
  · rw [if_neg h]; simp [show ¬ b ≤ a from h]

theorem spec_frost (a b : Int) : spec_IsFrost.f a b = some (decide (0 ≤ a) && (decide (a ≤ 2000) && (decide (0 ≤ b) && (decide (b ≤ 360) && decide (a % 360 < b))))) := by
  unfold spec_IsFrost.f
  rw [l01in]
  simp only [Option.bind_some]
  by_cases h : 0 ≤ a ∧ a ≤ 2000
  · rw [if_pos (decide_eq_true h), l01in]
    simp only [Option.bind_some]
    rw [decide_eq_true h.1, decide_eq_true h.2]
    by_cases h2 : 0 ≤ b ∧ b ≤ 360
    · rw [if_pos (decide_eq_true h2), decide_eq_true h2.1, decide_eq_true h2.2, Int.tmod_eq_emod_of_nonneg h.1]
      rfl
    · rw [if_neg (by simpa using h2)]
      simp; omega
  · rw [if_neg (by simpa using h)]
    simp; omega

theorem wrap_in {n : Int} (h : -9223372036854775808 ≤ n ∧ n ≤ 9223372036854775807) : wrap64 n = n := by
  unfold wrap64
  omega
theorem spec_sd (a : Int) (ha : 0 ≤ a ∧ a ≤ 300) : ∀ (n k : Nat) (day need : Int), 0 ≤ need → need ≤ 200 → 0 ≤ day → day + n = 2001 → 2 * n + 2 < k →
    spec_SetDay.l0 k a need day = some (impl_SetDay.sd a n day need)
  | n, 0, day, need, _, _, _, _, hk => by omega
  | n, 1, day, need, _, _, _, _, hk => by omega
  | 0, k + 2, day, need, h1, h2, h3, h4, hk => by
    simp only [spec_SetDay.l0, spec_SetDay.j2]
    have hd : ¬ day ≤ 2000 := by omega
    rw [decide_eq_false hd]
    simp only [Bool.false_eq_true, if_false]
    rw [if_pos (show day > 2000 by omega)]
    simp [impl_SetDay.sd]
  | n + 1, k + 2, day, need, h1, h2, h3, h4, hk => by
    have hd : day ≤ 2000 := by omega
    simp only [spec_SetDay.l0, spec_SetDay.j2]
    by_cases hn : need > 0
    · rw [if_pos hn, decide_eq_true hd]
      simp only [if_true]
      rw [spec_frost, Option.bind_some, decide_eq_true h3, decide_eq_true hd, decide_eq_true ha.1, decide_eq_true (show a ≤ 360 by omega)]
      simp only [Bool.true_and, decide_eq_true_eq]
      rw [wrap_in (n := day + 1) (by omega)]
      by_cases hf : day % 360 < a
      · rw [if_pos hf, impl_SetDay.sd_1 a n day need (by omega) hf]
        exact spec_sd a ha n k (day + 1) need h1 h2 (by omega) (by omega) (by omega)
      · rw [if_neg hf, impl_SetDay.sd_2 a n day need (by omega) hf, wrap_in (n := need - 1) (by omega)]
        exact spec_sd a ha n k (day + 1) (need - 1) (by omega) (by omega) (by omega) (by omega) (by omega)
    · rw [if_neg hn]
      simp only [Bool.false_eq_true, if_false]
      rw [if_neg (show ¬ day > 2000 by omega), impl_SetDay.sd_0 a n day need (by omega)]
theorem spec_bedok (a b : Int) : spec_BedOk.f a b = some (decide ((0 ≤ a ∧ a ≤ 1000) ∧ (0 ≤ b ∧ b ≤ 200))) := by
  unfold spec_BedOk.f
  rw [l01in]
  simp only [Option.bind_some]
  by_cases h : 0 ≤ a ∧ a ≤ 1000
  · rw [if_pos (decide_eq_true h), l01in]
    simp [h]
  · rw [if_neg (by simpa using h)]
    simp [h]
theorem spec_setday (a b c : Int) (k : Nat) (hk : 4010 < k) : spec_SetDay.f k a b c = impl_SetDay.f a b c := by
  obtain ⟨k, rfl⟩ : ∃ m, k = m + 1 := ⟨k - 1, by omega⟩
  unfold spec_SetDay.f impl_SetDay.f
  rw [spec_bedok]
  simp only [Option.bind_some]
  by_cases h : (0 ≤ a ∧ a ≤ 1000) ∧ (0 ≤ b ∧ b ≤ 200)
  · rw [if_pos (decide_eq_true h), l01in]
    simp only [Option.bind_some, spec_SetDay.j0]
    by_cases h2 : 0 ≤ c ∧ c ≤ 300
    · rw [if_neg (by simp [h2]), if_pos ⟨h.1, h.2, h2⟩]
      exact spec_sd c h2 _ k a b h.2.1 h.2.2 h.1.1 (by omega) (by omega)
    · rw [if_pos (by simp; omega), if_neg (fun hh => h2 hh.2.2)]
  · rw [if_neg (by simpa using h)]
    simp only [spec_SetDay.j0, if_true]
    rw [if_neg (fun hh => h ⟨hh.1, hh.2.1⟩)]

theorem FnExactSetDay : laws_FnExactSetDay.Pure := by
  intro a b c _ _ _
  refine ⟨4011, ?_⟩
  unfold laws_FnExactSetDay.f laws_toBed.f
  simp only [Option.bind_some]
  rw [spec_setday a b c _ (by omega)]
  unfold impl_SetDay.f
  simp
end Go.Proofs.Ytaahibjpncpdoaa.Pure
