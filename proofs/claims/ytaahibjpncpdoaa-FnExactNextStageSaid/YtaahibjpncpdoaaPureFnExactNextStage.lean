/- The law FnExactNextStage of the given program is proved: for every input of its types that can be read, the call returns true and leaves its arguments as they were. No further condition. -/
import Derived.Test.YtaahibjpncpdoaaPFnExactNextStagex3
namespace Go.Proofs.Ytaahibjpncpdoaa.Pure
open Go.RowKit Go.Proofs.Ytaahibjpncpdoaa.PFnExactNextStage Go.Proofs.YtaahibjpncpdoaaW.PrintWords Go.Proofs.YtaahibjpncpdoaaW.PrintLast
set_option linter.unusedVariables false
set_option linter.unusedSimpArgs false
theorem set_mid {α : Type} (A : List α) (z v : α) (d i : Nat) (h : A.length = i) : (A ++ List.replicate (d + 1) z).set i v = (A ++ [v]) ++ List.replicate d z := by
  subst h
  simp [List.replicate_succ]
theorem take_next {α β : Type} (f : α → β) (l : List α) (i : Nat) (h : i < l.length) : (l.take i).map f ++ [f l[i]] = (l.take (i + 1)).map f := by
  rw [List.take_succ_eq_append_getElem h, List.map_append]
  rfl
theorem wrap_small {n : Int} (h : -9223372036854775808 ≤ n ∧ n ≤ 9223372036854775807) : wrap64 n = n := by
  unfold wrap64
  omega
def cvStage (x : S82) : S72 := ⟨x.f0, x.f1, x.f2⟩
theorem toStage_eq (x : S82) : laws_toStage.f (x.f0) (x.f1) (x.f2) = some (x.f0, x.f1, x.f2) := by
  first | rfl | (simp [laws_toStage.f]; done) | (unfold laws_toStage.f laws_toPoint.f; rfl)
theorem toStageS_loop (l : List S82) (hl : l.length ≤ 1048576) : ∀ (d k i : Nat), i + d = l.length → d < k →
    laws_toStageS.l0 k l ((l.take i).map cvStage ++ List.replicate d z72) (i : Int) = some (l.map cvStage)
  | d, 0, i, _, hk => by omega
  | 0, k + 1, i, h, _ => by
    simp only [laws_toStageS.l0]
    rw [if_neg (by omega)]
    obtain rfl : i = l.length := by omega
    simp
  | d + 1, k + 1, i, h, hk => by
    have hi : i < l.length := by omega
    have e : rd_T82 l (i : Int) = l[i] := by simp [rd_T82, hi]
    simp only [laws_toStageS.l0]
    rw [if_pos (by omega), if_pos (by omega), e, toStage_eq]
    simp only [Option.bind_some]
    rw [if_pos (by simp; omega), Int.toNat_natCast, set_mid _ _ _ _ _ (by simp; omega), wrap_small (by omega)]
    have hh := toStageS_loop l hl d k (i + 1) (by omega) (by omega)
    rw [← take_next cvStage l i hi] at hh
    exact hh
theorem toStageS_eq (l : List S82) (k : Nat) (hl : l.length ≤ 1048576) (hk : l.length < k) : laws_toStageS.f k l = some (l.map cvStage) := by
  unfold laws_toStageS.f
  rw [if_pos (by omega), if_pos (by rw [Int.toNat_natCast]; omega), Int.toNat_natCast]
  have h := toStageS_loop l hl l.length k 0 (by omega) hk
  simpa using h
theorem eqStage_refl (x : S72) : laws_eqStage.f (x.f0) (x.f1) (x.f2) (x.f0) (x.f1) (x.f2) = some true := by
  first | (simp [laws_eqStage.f]; done) | (simp [laws_eqStage.f, laws_eqPoint.f]; done)
theorem eqStageS_loop (l : List S72) (hl : l.length ≤ 1048576) : ∀ (d k i : Nat), i + d = l.length → d < k → laws_eqStageS.l0 k l l (i : Int) = some true
  | d, 0, i, _, hk => by omega
  | 0, k + 1, i, h, _ => by
    simp only [laws_eqStageS.l0]
    rw [if_neg (by omega)]
  | d + 1, k + 1, i, h, hk => by
    simp only [laws_eqStageS.l0]
    rw [if_pos (by omega), if_pos (by omega), if_pos (by omega), eqStage_refl]
    simp only [Option.bind_some, if_true]
    rw [wrap_small (by omega)]
    exact eqStageS_loop l hl d k (i + 1) (by omega) (by omega)
theorem eqStageS_refl (l : List S72) (k : Nat) (hl : l.length ≤ 1048576) (hk : l.length < k) : laws_eqStageS.f k l l = some true := by
  unfold laws_eqStageS.f
  rw [if_pos rfl]
  exact eqStageS_loop l hl l.length k 0 (by omega) hk
theorem szStageS_big (l : List S82) (hl : l.length ≤ maxLen) (h : 1048576 < l.length) : laws_szStageS.f l 1048576 = some (-1) := by
  unfold maxLen at hl
  unfold laws_szStageS.f
  rw [wrap_small (by omega), if_pos (by omega)]
theorem szStageS_ok (l : List S82) (h : l.length ≤ 1048576) : laws_szStageS.f l 1048576 = some (1048576 - (l.length : Int)) := by
  unfold laws_szStageS.f
  rw [wrap_small (by omega), if_neg (by omega)]
theorem szStageS_if (l : List S82) (m : Int) (hm : 0 ≤ m ∧ m ≤ 1048576) (hl : l.length ≤ maxLen) : laws_szStageS.f l m = some (if m < (l.length : Int) then -1 else m - (l.length : Int)) := by
  unfold maxLen at hl
  unfold laws_szStageS.f
  rw [wrap_small (by omega)]
  by_cases h : m < (l.length : Int)
  · rw [if_pos (by omega), if_pos h]
  · rw [if_neg (by omega), if_neg h]
theorem l01in (a b c : Int) : spec_l01In.f a b c = some (decide (b ≤ a ∧ a ≤ c)) := by
  unfold spec_l01In.f
  by_cases h : a ≥ b
  · rw [if_pos h]; simp [h]
  · rw [if_neg h]; simp [show ¬ b ≤ a from h]

theorem win (a b c : Int) : impl_within.f a b c = some (decide (b ≤ a ∧ a ≤ c)) := by
  unfold impl_within.f
  by_cases h : b ≤ a
  · rw [if_pos h]; simp [h]
  · rw [if_neg h]; simp [h]

/-- Is stage i in order? -/
def stB (l : List S72) (i : Nat) : Bool :=
  decide (1 ≤ (rd_T72 l i).f0 ∧ (rd_T72 l i).f0 ≤ 2000) && (decide (0 ≤ (rd_T72 l i).f1 ∧ (rd_T72 l i).f1 ≤ 10000) && (decide (0 ≤ (rd_T72 l i).f2 ∧ (rd_T72 l i).f2 ≤ 2000) &&
    decide (i = 0 ∨ (rd_T72 l i).f2 = 0 ∨ ((rd_T72 l ((i - 1 : Nat) : Int)).f2 ≠ 0 ∧ (rd_T72 l ((i - 1 : Nat) : Int)).f2 ≤ (rd_T72 l i).f2))))
def okFrom (l : List S72) : Nat → Nat → Bool
  | 0, _ => true
  | d + 1, i => stB l i && okFrom l d (i + 1)
theorem spec_stages_loop (l : List S72) (hl : l.length ≤ 1048576) : ∀ (d k i : Nat), i + d = l.length → 2 * d < k → spec_StagesOk.l0 k l (i : Int) = some (okFrom l d i && decide ((l.length : Int) ≤ 12))
  | d, 0, i, _, hk => by omega
  | 0, k + 1, i, h, _ => by
    simp only [spec_StagesOk.l0]
    rw [if_neg (by omega)]
    simp [okFrom]
  | d + 1, 1, i, _, hk => by omega
  | d + 1, k + 2, i, h, hk => by
    have ih := spec_stages_loop l hl d k (i + 1) (by omega) (by omega)
    have hi1 : wrap64 ((i : Int) + 1) = ((i + 1 : Nat) : Int) := by rw [wrap_small (by omega)]; rfl
    simp only [spec_StagesOk.l0]
    rw [if_pos (by omega), if_pos (by omega), l01in, okFrom, stB]
    simp only [Option.bind_some]
    by_cases h1 : 1 ≤ (rd_T72 l i).f0 ∧ (rd_T72 l i).f0 ≤ 2000
    · rw [decide_eq_true h1, if_pos rfl, l01in]
      simp only [Option.bind_some]
      by_cases h2 : 0 ≤ (rd_T72 l i).f1 ∧ (rd_T72 l i).f1 ≤ 10000
      · rw [decide_eq_true h2, if_pos rfl, l01in]
        simp only [Option.bind_some, spec_StagesOk.j1]
        by_cases h3 : 0 ≤ (rd_T72 l i).f2 ∧ (rd_T72 l i).f2 ≤ 2000
        · rw [decide_eq_true h3, if_neg (by simp)]
          by_cases h4 : i = 0
          · rw [if_neg (by omega), hi1, ih]
            simp [h4]
          · rw [if_pos (by omega)]
            by_cases h5 : (rd_T72 l i).f2 = 0
            · rw [if_neg (by omega), hi1, ih]
              simp [h5]
            · rw [if_pos (by omega), show wrap64 ((i : Int) - 1) = ((i - 1 : Nat) : Int) by rw [wrap_small (by omega)]; omega, if_pos (by omega), if_pos (by omega)]
              by_cases h6 : (rd_T72 l ((i - 1 : Nat) : Int)).f2 = 0
              · rw [if_pos h6]; simp [h4, h5, h6]
              · rw [if_neg h6]
                by_cases h7 : (rd_T72 l i).f2 < (rd_T72 l ((i - 1 : Nat) : Int)).f2
                · rw [if_pos h7]; simp [h4, h5, h6]; intro hh; omega
                · rw [if_neg h7, hi1, ih]
                  have h8 : (rd_T72 l ((i - 1 : Nat) : Int)).f2 ≤ (rd_T72 l i).f2 := by omega
                  rw [decide_eq_true (show i = 0 ∨ (rd_T72 l i).f2 = 0 ∨ ((rd_T72 l ((i - 1 : Nat) : Int)).f2 ≠ 0 ∧ (rd_T72 l ((i - 1 : Nat) : Int)).f2 ≤ (rd_T72 l i).f2) from .inr (.inr ⟨h6, h8⟩))]
                  simp
        · rw [decide_eq_false h3, if_pos (by simp)]; simp
      · rw [decide_eq_false h2, if_neg (by simp)]
        simp [spec_StagesOk.j1]
    · rw [decide_eq_false h1, if_neg (by simp)]
      simp [spec_StagesOk.j1]
theorem impl_stages_loop (l : List S72) (hl : l.length ≤ 12) : ∀ (d k i : Nat), i + d = l.length → 2 * d < k → impl_stagesOk.l0 k l l (l.length : Int) (i : Int) = some (okFrom l d i)
  | d, 0, i, _, hk => by omega
  | 0, k + 1, i, h, _ => by
    simp only [impl_stagesOk.l0]
    rw [if_neg (by omega)]
    simp [okFrom]
  | d + 1, 1, i, _, hk => by omega
  | d + 1, k + 2, i, h, hk => by
    have ih := impl_stages_loop l hl d k (i + 1) (by omega) (by omega)
    have hi1 : wrap64 ((i : Int) + 1) = ((i + 1 : Nat) : Int) := by rw [wrap_small (by omega)]; rfl
    simp only [impl_stagesOk.l0]
    rw [if_pos (by omega), if_pos (by omega), if_pos (by omega), win, okFrom, stB]
    simp only [Option.bind_some]
    by_cases h1 : 1 ≤ (rd_T72 l i).f0 ∧ (rd_T72 l i).f0 ≤ 2000
    · rw [decide_eq_true h1, if_pos rfl, win]
      simp only [Option.bind_some]
      by_cases h2 : 0 ≤ (rd_T72 l i).f1 ∧ (rd_T72 l i).f1 ≤ 10000
      · rw [decide_eq_true h2, if_pos rfl, win]
        simp only [Option.bind_some, impl_stagesOk.j1]
        by_cases h3 : 0 ≤ (rd_T72 l i).f2 ∧ (rd_T72 l i).f2 ≤ 2000
        · rw [decide_eq_true h3, if_neg (by simp)]
          by_cases h4 : i = 0
          · rw [if_neg (by omega), hi1, ih]
            simp [h4]
          · rw [if_pos (by omega)]
            by_cases h5 : (rd_T72 l i).f2 = 0
            · rw [if_pos h5, hi1, ih]
              simp [h5]
            · rw [if_neg h5, show wrap64 ((i : Int) - 1) = ((i - 1 : Nat) : Int) by rw [wrap_small (by omega)]; omega, if_pos (by omega), if_pos (by omega)]
              by_cases h6 : (rd_T72 l ((i - 1 : Nat) : Int)).f2 = 0
              · rw [if_pos h6]; simp [h4, h5, h6]
              · rw [if_neg h6]
                by_cases h7 : (rd_T72 l i).f2 < (rd_T72 l ((i - 1 : Nat) : Int)).f2
                · rw [if_pos h7]; simp [h4, h5, h6]; intro hh; omega
                · rw [if_neg h7, hi1, ih]
                  have h8 : (rd_T72 l ((i - 1 : Nat) : Int)).f2 ≤ (rd_T72 l i).f2 := by omega
                  rw [decide_eq_true (show i = 0 ∨ (rd_T72 l i).f2 = 0 ∨ ((rd_T72 l ((i - 1 : Nat) : Int)).f2 ≠ 0 ∧ (rd_T72 l ((i - 1 : Nat) : Int)).f2 ≤ (rd_T72 l i).f2) from .inr (.inr ⟨h6, h8⟩))]
                  simp
        · rw [decide_eq_false h3, if_pos (by simp)]; simp
      · rw [decide_eq_false h2, if_neg (by simp)]
        simp [impl_stagesOk.j1]
    · rw [decide_eq_false h1, if_neg (by simp)]
      simp [impl_stagesOk.j1]
def stagesB (l : List S72) : Bool := okFrom l l.length 0 && decide ((l.length : Int) ≤ 12)
theorem spec_stages (l : List S72) (k : Nat) (hl : l.length ≤ 1048576) (hk : 2 * l.length < k) : spec_StagesOk.f k l = some (stagesB l) := by
  unfold spec_StagesOk.f
  exact spec_stages_loop l hl l.length k 0 (by omega) hk
theorem impl_stages (l : List S72) (k : Nat) (hk : 24 < k) : impl_StagesOk.f k l = some (stagesB l) := by
  unfold impl_StagesOk.f impl_stagesOk.f stagesB
  by_cases h : (l.length : Int) > 12
  · rw [if_pos h, decide_eq_false (by omega)]
    simp
  · rw [if_neg h, decide_eq_true (by omega)]
    have := impl_stages_loop l (by omega) l.length k 0 (by omega) (by omega)
    rw [show ((0 : Nat) : Int) = 0 from rfl] at this
    rw [this]
    simp

theorem stagesB_len (l : List S72) (h : stagesB l = true) : l.length ≤ 12 := by
  unfold stagesB at h
  simp at h
  omega

theorem spec_next_loop (l : List S72) (hl : l.length ≤ 12) (hB : stagesB l = true) : ∀ (d k i : Nat), i + d = l.length → 2 * d + 26 < k → spec_NextStage.l0 k l (i : Int) = some (IdxStage.f NextStage_1.p (l.drop i) (i : Int))
  | d, 0, i, _, hk => by omega
  | d, 1, i, _, hk => by omega
  | 0, k + 2, i, h, _ => by
    have c1 : ((i : Int) < (l.length : Int)) = False := eq_false (by omega)
    rw [IdxStage.done _ l i (by omega)]
    simp only [spec_NextStage.l0, spec_NextStage.j1, c1, if_false, Bool.false_eq_true]
  | d + 1, k + 2, i, h, hk => by
    have hi : i < l.length := by omega
    have c1 : ((i : Int) < (l.length : Int)) = True := eq_true (by omega)
    have c2 : ((0 : Int) ≤ (i : Int)) = True := eq_true (by omega)
    have c4 : wrap64 ((i : Int) + 1) = ((i + 1 : Nat) : Int) := wrap_small (n := (i : Int) + 1) (by omega)
    have c5 : spec_StagesOk.f (k + 1) l = some true := by rw [spec_stages l _ (by omega) (by omega), hB]
    simp only [spec_NextStage.l0, spec_NextStage.j1, c1, c2, c4, c5, if_true, Option.bind_some]
    by_cases h0 : (rd_T72 l (i : Int)).f2 = 0
    · rw [if_pos h0, IdxStage.here _ l i hi (by simp [NextStage_1.p, h0])]
    · rw [if_neg h0, IdxStage.next _ l i hi (by simp [NextStage_1.p, h0])]
      exact spec_next_loop l hl hB d k (i + 1) (by omega) (by omega)
theorem spec_next (l : List S72) (k : Nat) (hl : l.length ≤ 1048576) (hk : 2 * l.length + 30 < k) : spec_NextStage.f k l = some (if stagesB l = true then IdxStage.f NextStage_1.p l 0 else -1) := by
  obtain ⟨k, rfl⟩ : ∃ m, k = m + 2 := ⟨k - 2, by omega⟩
  unfold spec_NextStage.f
  by_cases hB : stagesB l = true
  · rw [if_pos hB]
    exact spec_next_loop l (stagesB_len l hB) hB l.length (k + 2) 0 (by omega) (by omega)
  · have hB' : stagesB l = false := by simpa using hB
    rw [if_neg hB]
    simp only [spec_NextStage.l0, spec_NextStage.j1]
    split
    · rw [spec_stages l _ (by omega) (by omega), hB']
      simp
    · simp
theorem impl_next (l : List S72) (k : Nat) (hk : 24 < k) : impl_NextStage.f k l = some (if stagesB l = true then IdxStage.f NextStage_1.p l 0 else -1) := by
  unfold impl_NextStage.f
  rw [impl_stages l k hk, Option.bind_some]
  split <;> rfl

theorem FnExactNextStage : laws_FnExactNextStage.Pure := by
  intro l hl
  by_cases hb : 1048576 < l.length
  · exact ⟨0, by unfold laws_FnExactNextStage.f; rw [szStageS_big l hl.1 hb]; simp⟩
  · have hb : l.length ≤ 1048576 := by omega
    obtain ⟨K, hK⟩ : ∃ K, K = 2 * l.length + 61 := ⟨_, rfl⟩
    refine ⟨K, ?_⟩
    have hm : (l.map cvStage).length = l.length := List.length_map ..
    have n3 : ((1048576 : Int) - (l.length : Int) < 0) = False := eq_false (by omega)
    have a1 := toStageS_eq l K hb (by omega)
    have a2 := spec_next (l.map cvStage) K (by omega) (by omega)
    have a3 := impl_next (l.map cvStage) K (by omega)
    have a5 := eqStageS_refl (l.map cvStage) K (by omega) (by omega)
    simp only [laws_FnExactNextStage.f, szStageS_ok l hb, Option.bind_some, n3, a1, a2, a3, a5, if_true, if_false]
end Go.Proofs.Ytaahibjpncpdoaa.Pure
