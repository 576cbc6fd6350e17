/- The law FnExactFinishStage of the given program is proved: for every input of its types that can be read, the call returns true and leaves its arguments as they were. No further condition. -/
import Derived.Test.YtgepdbkhcdoedaaPFnExactFinishStagex4
namespace Go.Proofs.Ytgepdbkhcdoedaa.Pure
open Go.RowKit Go.Proofs.Ytgepdbkhcdoedaa.PFnExactFinishStage Go.Proofs.YtgepdbkhcdoedaaW.PrintWords Go.Proofs.YtgepdbkhcdoedaaW.PrintLast
set_option linter.unusedVariables false
set_option linter.unusedSimpArgs false
theorem set_mid {α : Type} (A : List α) (z v : α) (d i : Nat) (h : A.length = i) : (A ++ List.replicate (d + 1) z).set i v = (A ++ [v]) ++ List.replicate d z := by
  subst h
  simp [List.replicate_succ]
theorem take_next {α β : Type} (f : α → β) (l : List α) (i : Nat) (h : i < l.length) : (l.take i).map f ++ [f l[i]] = (l.take (i + 1)).map f := by
  rw [List.take_succ_eq_append_getElem h, List.map_append]
  rfl
theorem wrap_small {n : Int} (h : -9223372036854775808 ≤ n ∧ n ≤ 9223372036854775807) : wrap64 n = n := by
  unfold wrap64
  omega
def cvStage (x : S81) : S78 := ⟨x.f0, x.f1, x.f2⟩
theorem toStage_eq (x : S81) : laws_toStage.f (x.f0) (x.f1) (x.f2) = some (x.f0, x.f1, x.f2) := by
  first | rfl | (simp [laws_toStage.f]; done) | (unfold laws_toStage.f laws_toPoint.f; rfl)
theorem toStageS_loop (l : List S81) (hl : l.length ≤ 1048576) : ∀ (d k i : Nat), i + d = l.length → d < k →
    laws_toStageS.l0 k l ((l.take i).map cvStage ++ List.replicate d z78) (i : Int) = some (l.map cvStage)
  | d, 0, i, _, hk => by omega
  | 0, k + 1, i, h, _ => by
    simp only [laws_toStageS.l0]
    rw [if_neg (by omega)]
    obtain rfl : i = l.length := by omega
    simp
  | d + 1, k + 1, i, h, hk => by
    have hi : i < l.length := by omega
    have e : rd_T81 l (i : Int) = l[i] := by simp [rd_T81, hi]
    simp only [laws_toStageS.l0]
    rw [if_pos (by omega), if_pos (by omega), e, toStage_eq]
    simp only [Option.bind_some]
    rw [if_pos (by simp; omega), Int.toNat_natCast, set_mid _ _ _ _ _ (by simp; omega), wrap_small (by omega)]
    have hh := toStageS_loop l hl d k (i + 1) (by omega) (by omega)
    rw [← take_next cvStage l i hi] at hh
    exact hh
theorem toStageS_eq (l : List S81) (k : Nat) (hl : l.length ≤ 1048576) (hk : l.length < k) : laws_toStageS.f k l = some (l.map cvStage) := by
  unfold laws_toStageS.f
  rw [if_pos (by omega), if_pos (by rw [Int.toNat_natCast]; omega), Int.toNat_natCast]
  have h := toStageS_loop l hl l.length k 0 (by omega) hk
  simpa using h
theorem eqStage_refl (x : S78) : laws_eqStage.f (x.f0) (x.f1) (x.f2) (x.f0) (x.f1) (x.f2) = some true := by
  first | (simp [laws_eqStage.f]; done) | (simp [laws_eqStage.f, laws_eqPoint.f]; done)
theorem eqStageS_loop (l : List S78) (hl : l.length ≤ 1048576) : ∀ (d k i : Nat), i + d = l.length → d < k → laws_eqStageS.l0 k l l (i : Int) = some true
  | d, 0, i, _, hk => by omega
  | 0, k + 1, i, h, _ => by
    simp only [laws_eqStageS.l0]
    rw [if_neg (by omega)]
  | d + 1, k + 1, i, h, hk => by
    simp only [laws_eqStageS.l0]
    rw [if_pos (by omega), if_pos (by omega), if_pos (by omega), eqStage_refl]
    simp only [Option.bind_some, if_true]
    rw [wrap_small (by omega)]
    exact eqStageS_loop l hl d k (i + 1) (by omega) (by omega)
theorem eqStageS_refl (l : List S78) (k : Nat) (hl : l.length ≤ 1048576) (hk : l.length < k) : laws_eqStageS.f k l l = some true := by
  unfold laws_eqStageS.f
  rw [if_pos rfl]
  exact eqStageS_loop l hl l.length k 0 (by omega) hk
theorem szStageS_big (l : List S81) (hl : l.length ≤ maxLen) (h : 1048576 < l.length) : laws_szStageS.f l 1048576 = some (-1) := by
  unfold maxLen at hl
  unfold laws_szStageS.f
  rw [wrap_small (by omega), if_pos (by omega)]
theorem szStageS_ok (l : List S81) (h : l.length ≤ 1048576) : laws_szStageS.f l 1048576 = some (1048576 - (l.length : Int)) := by
  unfold laws_szStageS.f
  rw [wrap_small (by omega), if_neg (by omega)]
theorem szStageS_if (l : List S81) (m : Int) (hm : 0 ≤ m ∧ m ≤ 1048576) (hl : l.length ≤ maxLen) : laws_szStageS.f l m = some (if m < (l.length : Int) then -1 else m - (l.length : Int)) := by
  unfold maxLen at hl
  unfold laws_szStageS.f
  rw [wrap_small (by omega)]
  by_cases h : m < (l.length : Int)
  · rw [if_pos (by omega), if_pos h]
  · rw [if_neg (by omega), if_neg h]
theorem rdStage_same (l : List S78) (i : Nat) (h : i < l.length) (v : S78) : rd_T78 (l.set i v) (i : Int) = v := by
  simp [rd_T78, h]
theorem rdStage_other (l : List S78) (i j : Nat) (h : ¬ j = i) (v : S78) : rd_T78 (l.set i v) (j : Int) = rd_T78 l (j : Int) := by
  have h2 : ¬ i = j := fun e => h e.symm
  simp [rd_T78, List.getElem?_set, h2]
theorem markStageS_loop (m : Int) (hm : 0 ≤ m ∧ m ≤ 4611686018427387904) : ∀ (d k i : Nat) (l : List S78), l.length ≤ 1152921504606846976 / 3 → i + d = l.length → d < k →
    ∃ y, laws_markStageS.l0 k l (m + 3 * i) (i : Int) = some (m + 3 * (l.length : Int), y) ∧ y.length = l.length ∧ (∀ j : Nat, j < i → rd_T78 y (j : Int) = rd_T78 l (j : Int)) ∧ ∀ j : Nat, i ≤ j → j < l.length → rd_T78 y (j : Int) = ⟨m + 3 * (j : Int), m + 3 * (j : Int) + 1, m + 3 * (j : Int) + 1 + 1⟩
  | d, 0, i, l, _, _, hk => by omega
  | 0, k + 1, i, l, hl, h, _ => by
    simp only [laws_markStageS.l0]
    rw [if_neg (by omega)]
    exact ⟨l, by rw [show i = l.length by omega], rfl, fun _ _ => rfl, fun j _ _ => by omega⟩
  | d + 1, k + 1, i, l, hl, h, hk => by
    have hi : i < l.length := by omega
    simp only [laws_markStageS.l0]
    rw [if_pos (by omega), if_pos (by omega)]
    simp only [Option.bind_some, Int.toNat_natCast, rdStage_same l i hi, List.set_set]
    rw [wrap_small (n := m + 3 * (i : Int) + 1) (by omega), wrap_small (n := m + 3 * (i : Int) + 1 + 1) (by omega), wrap_small (n := m + 3 * (i : Int) + 1 + 1 + 1) (by omega), wrap_small (n := (i : Int) + 1) (by omega)]
    obtain ⟨y, h1, h2, h3, h4⟩ := markStageS_loop m hm d k (i + 1) (l.set i ⟨m + 3 * (i : Int), m + 3 * (i : Int) + 1, m + 3 * (i : Int) + 1 + 1⟩) (by simpa using hl) (by simp; omega) (by omega)
    rw [show m + 3 * ((i + 1 : Nat) : Int) = m + 3 * (i : Int) + 1 + 1 + 1 by omega] at h1
    rw [List.length_set] at h1 h2 h4
    refine ⟨y, h1, h2, fun j hj => ?_, fun j hj hj2 => ?_⟩
    · rw [h3 j (by omega), rdStage_other l i j (by omega)]
    · rcases Nat.lt_or_ge i j with hij | hij
      · exact h4 j (by omega) hj2
      · obtain rfl : j = i := by omega
        rw [h3 j (by omega), rdStage_same l j hi]
theorem markStageS_eq (l : List S78) (m : Int) (hm : 0 ≤ m ∧ m ≤ 4611686018427387904) (k : Nat) (hl : l.length ≤ 1048576) (hk : l.length < k) :
    ∃ y, laws_markStageS.f k l m = some (m + 3 * (l.length : Int), y) ∧ y.length = l.length ∧ ∀ j : Nat, j < l.length → rd_T78 y (j : Int) = ⟨m + 3 * (j : Int), m + 3 * (j : Int) + 1, m + 3 * (j : Int) + 1 + 1⟩ := by
  obtain ⟨y, h1, h2, _, h4⟩ := markStageS_loop m hm l.length k 0 l (by omega) (by omega) hk
  rw [show m + 3 * ((0 : Nat) : Int) = m by omega] at h1
  exact ⟨y, h1, h2, fun j hj => h4 j (by omega) hj⟩
theorem heldStageS_loop (m : Int) (hm : 0 ≤ m ∧ m ≤ 4611686018427387904) (l : List S78) (hl : l.length ≤ 1152921504606846976 / 3) (hv : ∀ j : Nat, j < l.length → rd_T78 l (j : Int) = ⟨m + 3 * (j : Int), m + 3 * (j : Int) + 1, m + 3 * (j : Int) + 1 + 1⟩) : ∀ (d k i : Nat), i + d = l.length → d < k →
    laws_heldStageS.l0 k l (m + 3 * i) (i : Int) = some (m + 3 * (l.length : Int))
  | d, 0, i, _, hk => by omega
  | 0, k + 1, i, h, _ => by
    simp only [laws_heldStageS.l0]
    rw [if_neg (by omega), show i = l.length by omega]
  | d + 1, k + 1, i, h, hk => by
    have hi : i < l.length := by omega
    have c1 : ((i : Int) < (l.length : Int)) = True := eq_true (by omega)
    have c2 : ((0 : Int) ≤ (i : Int)) = True := eq_true (by omega)
    simp only [laws_heldStageS.l0, hv i hi, c1, c2, if_true, wrap_small (n := m + 3 * (i : Int) + 1) (by omega), wrap_small (n := m + 3 * (i : Int) + 1 + 1) (by omega), wrap_small (n := m + 3 * (i : Int) + 1 + 1 + 1) (by omega), wrap_small (n := (i : Int) + 1) (by omega)]
    have ih := heldStageS_loop m hm l hl hv d k (i + 1) (by omega) (by omega)
    rw [show m + 3 * ((i + 1 : Nat) : Int) = m + 3 * (i : Int) + 1 + 1 + 1 by omega] at ih
    exact ih
theorem heldStageS_eq (l : List S78) (m : Int) (hm : 0 ≤ m ∧ m ≤ 4611686018427387904) (k : Nat) (hl : l.length ≤ 1048576) (hk : l.length < k) (hv : ∀ j : Nat, j < l.length → rd_T78 l (j : Int) = ⟨m + 3 * (j : Int), m + 3 * (j : Int) + 1, m + 3 * (j : Int) + 1 + 1⟩) :
    laws_heldStageS.f k l m = some (m + 3 * (l.length : Int)) := by
  have h := heldStageS_loop m hm l (by omega) hv l.length k 0 (by omega) hk
  rw [show m + 3 * ((0 : Nat) : Int) = m by omega] at h
  exact h
theorem l01in (a b c : Int) : spec_l01In.f a b c = some (decide (b ≤ a ∧ a ≤ c)) := by
  unfold spec_l01In.f
  by_cases h : a ≥ b
  · rw [if_pos h]; simp [h]
  · rw [if_neg h]; simp [show ¬ b ≤ a from h]

theorem win (a b c : Int) : impl_within.f a b c = some (decide (b ≤ a ∧ a ≤ c)) := by
  unfold impl_within.f
  by_cases h : b ≤ a
  · rw [if_pos h]; simp [h]
  · rw [if_neg h]; simp [h]

/-- Is stage i in order? -/
def stB (l : List S78) (i : Nat) : Bool :=
  decide (1 ≤ (rd_T78 l i).f0 ∧ (rd_T78 l i).f0 ≤ 2000) && (decide (0 ≤ (rd_T78 l i).f1 ∧ (rd_T78 l i).f1 ≤ 10000) && (decide (0 ≤ (rd_T78 l i).f2 ∧ (rd_T78 l i).f2 ≤ 2000) &&
    decide (i = 0 ∨ (rd_T78 l i).f2 = 0 ∨ ((rd_T78 l ((i - 1 : Nat) : Int)).f2 ≠ 0 ∧ (rd_T78 l ((i - 1 : Nat) : Int)).f2 ≤ (rd_T78 l i).f2))))
def okFrom (l : List S78) : Nat → Nat → Bool
  | 0, _ => true
  | d + 1, i => stB l i && okFrom l d (i + 1)
theorem spec_stages_loop (l : List S78) (hl : l.length ≤ 1048576) : ∀ (d k i : Nat), i + d = l.length → 2 * d < k → spec_StagesOk.l0 k l (i : Int) = some (okFrom l d i && decide ((l.length : Int) ≤ 12))
  | d, 0, i, _, hk => by omega
  | 0, k + 1, i, h, _ => by
    simp only [spec_StagesOk.l0]
    rw [if_neg (by omega)]
    simp [okFrom]
  | d + 1, 1, i, _, hk => by omega
  | d + 1, k + 2, i, h, hk => by
    have ih := spec_stages_loop l hl d k (i + 1) (by omega) (by omega)
    have hi1 : wrap64 ((i : Int) + 1) = ((i + 1 : Nat) : Int) := by rw [wrap_small (by omega)]; rfl
    simp only [spec_StagesOk.l0]
    rw [if_pos (by omega), if_pos (by omega), l01in, okFrom, stB]
    simp only [Option.bind_some]
    by_cases h1 : 1 ≤ (rd_T78 l i).f0 ∧ (rd_T78 l i).f0 ≤ 2000
    · rw [decide_eq_true h1, if_pos rfl, l01in]
      simp only [Option.bind_some]
      by_cases h2 : 0 ≤ (rd_T78 l i).f1 ∧ (rd_T78 l i).f1 ≤ 10000
      · rw [decide_eq_true h2, if_pos rfl, l01in]
        simp only [Option.bind_some, spec_StagesOk.j1]
        by_cases h3 : 0 ≤ (rd_T78 l i).f2 ∧ (rd_T78 l i).f2 ≤ 2000
        · rw [decide_eq_true h3, if_neg (by simp)]
          by_cases h4 : i = 0
          · rw [if_neg (by omega), hi1, ih]
            simp [h4]
          · rw [if_pos (by omega)]
            by_cases h5 : (rd_T78 l i).f2 = 0
            · rw [if_neg (by omega), hi1, ih]
              simp [h5]
            · rw [if_pos (by omega), show wrap64 ((i : Int) - 1) = ((i - 1 : Nat) : Int) by rw [wrap_small (by omega)]; omega, if_pos (by omega), if_pos (by omega)]
              by_cases h6 : (rd_T78 l ((i - 1 : Nat) : Int)).f2 = 0
              · rw [if_pos h6]; simp [h4, h5, h6]
              · rw [if_neg h6]
                by_cases h7 : (rd_T78 l i).f2 < (rd_T78 l ((i - 1 : Nat) : Int)).f2
                · rw [if_pos h7]; simp [h4, h5, h6]; intro hh; omega
                · rw [if_neg h7, hi1, ih]
                  have h8 : (rd_T78 l ((i - 1 : Nat) : Int)).f2 ≤ (rd_T78 l i).f2 := by omega
                  rw [decide_eq_true (show i = 0 ∨ (rd_T78 l i).f2 = 0 ∨ ((rd_T78 l ((i - 1 : Nat) : Int)).f2 ≠ 0 ∧ (rd_T78 l ((i - 1 : Nat) : Int)).f2 ≤ (rd_T78 l i).f2) from .inr (.inr ⟨h6, h8⟩))]
                  simp
        · rw [decide_eq_false h3, if_pos (by simp)]; simp
      · rw [decide_eq_false h2, if_neg (by simp)]
        simp [spec_StagesOk.j1]
    · rw [decide_eq_false h1, if_neg (by simp)]
      simp [spec_StagesOk.j1]
theorem impl_stages_loop (l : List S78) (hl : l.length ≤ 12) : ∀ (d k i : Nat), i + d = l.length → 2 * d < k → impl_stagesOk.l0 k l l (l.length : Int) (i : Int) = some (okFrom l d i)
  | d, 0, i, _, hk => by omega
  | 0, k + 1, i, h, _ => by
    simp only [impl_stagesOk.l0]
    rw [if_neg (by omega)]
    simp [okFrom]
  | d + 1, 1, i, _, hk => by omega
  | d + 1, k + 2, i, h, hk => by
    have ih := impl_stages_loop l hl d k (i + 1) (by omega) (by omega)
    have hi1 : wrap64 ((i : Int) + 1) = ((i + 1 : Nat) : Int) := by rw [wrap_small (by omega)]; rfl
    simp only [impl_stagesOk.l0]
    rw [if_pos (by omega), if_pos (by omega), if_pos (by omega), win, okFrom, stB]
    simp only [Option.bind_some]
    by_cases h1 : 1 ≤ (rd_T78 l i).f0 ∧ (rd_T78 l i).f0 ≤ 2000
    · rw [decide_eq_true h1, if_pos rfl, win]
      simp only [Option.bind_some]
      by_cases h2 : 0 ≤ (rd_T78 l i).f1 ∧ (rd_T78 l i).f1 ≤ 10000
      · rw [decide_eq_true h2, if_pos rfl, win]
        simp only [Option.bind_some, impl_stagesOk.j1]
        by_cases h3 : 0 ≤ (rd_T78 l i).f2 ∧ (rd_T78 l i).f2 ≤ 2000
        · rw [decide_eq_true h3, if_neg (by simp)]
          by_cases h4 : i = 0
          · rw [if_neg (by omega), hi1, ih]
            simp [h4]
          · rw [if_pos (by omega)]
            by_cases h5 : (rd_T78 l i).f2 = 0
            · rw [if_pos h5, hi1, ih]
              simp [h5]
            · rw [if_neg h5, show wrap64 ((i : Int) - 1) = ((i - 1 : Nat) : Int) by rw [wrap_small (by omega)]; omega, if_pos (by omega), if_pos (by omega)]
              by_cases h6 : (rd_T78 l ((i - 1 : Nat) : Int)).f2 = 0
              · rw [if_pos h6]; simp [h4, h5, h6]
              · rw [if_neg h6]
                by_cases h7 : (rd_T78 l i).f2 < (rd_T78 l ((i - 1 : Nat) : Int)).f2
                · rw [if_pos h7]; simp [h4, h5, h6]; intro hh; omega
                · rw [if_neg h7, hi1, ih]
                  have h8 : (rd_T78 l ((i - 1 : Nat) : Int)).f2 ≤ (rd_T78 l i).f2 := by omega
                  rw [decide_eq_true (show i = 0 ∨ (rd_T78 l i).f2 = 0 ∨ ((rd_T78 l ((i - 1 : Nat) : Int)).f2 ≠ 0 ∧ (rd_T78 l ((i - 1 : Nat) : Int)).f2 ≤ (rd_T78 l i).f2) from .inr (.inr ⟨h6, h8⟩))]
                  simp
        · rw [decide_eq_false h3, if_pos (by simp)]; simp
      · rw [decide_eq_false h2, if_neg (by simp)]
        simp [impl_stagesOk.j1]
    · rw [decide_eq_false h1, if_neg (by simp)]
      simp [impl_stagesOk.j1]
def stagesB (l : List S78) : Bool := okFrom l l.length 0 && decide ((l.length : Int) ≤ 12)
theorem spec_stages (l : List S78) (k : Nat) (hl : l.length ≤ 1048576) (hk : 2 * l.length < k) : spec_StagesOk.f k l = some (stagesB l) := by
  unfold spec_StagesOk.f
  exact spec_stages_loop l hl l.length k 0 (by omega) hk
theorem impl_stages (l : List S78) (k : Nat) (hk : 24 < k) : impl_StagesOk.f k l = some (stagesB l) := by
  unfold impl_StagesOk.f impl_stagesOk.f stagesB
  by_cases h : (l.length : Int) > 12
  · rw [if_pos h, decide_eq_false (by omega)]
    simp
  · rw [if_neg h, decide_eq_true (by omega)]
    have := impl_stages_loop l (by omega) l.length k 0 (by omega) (by omega)
    rw [show ((0 : Nat) : Int) = 0 from rfl] at this
    rw [this]
    simp

theorem stagesB_len (l : List S78) (h : stagesB l = true) : l.length ≤ 12 := by
  unfold stagesB at h
  simp at h
  omega

theorem spec_next_loop (l : List S78) (hl : l.length ≤ 12) (hB : stagesB l = true) : ∀ (d k i : Nat), i + d = l.length → 2 * d + 26 < k → spec_NextStage.l0 k l (i : Int) = some (IdxStage.f NextStage_1.p (l.drop i) (i : Int))
  | d, 0, i, _, hk => by omega
  | d, 1, i, _, hk => by omega
  | 0, k + 2, i, h, _ => by
    have c1 : ((i : Int) < (l.length : Int)) = False := eq_false (by omega)
    rw [IdxStage.done _ l i (by omega)]
    simp only [spec_NextStage.l0, spec_NextStage.j1, c1, if_false, Bool.false_eq_true]
  | d + 1, k + 2, i, h, hk => by
    have hi : i < l.length := by omega
    have c1 : ((i : Int) < (l.length : Int)) = True := eq_true (by omega)
    have c2 : ((0 : Int) ≤ (i : Int)) = True := eq_true (by omega)
    have c4 : wrap64 ((i : Int) + 1) = ((i + 1 : Nat) : Int) := wrap_small (n := (i : Int) + 1) (by omega)
    have c5 : spec_StagesOk.f (k + 1) l = some true := by rw [spec_stages l _ (by omega) (by omega), hB]
    simp only [spec_NextStage.l0, spec_NextStage.j1, c1, c2, c4, c5, if_true, Option.bind_some]
    by_cases h0 : (rd_T78 l (i : Int)).f2 = 0
    · rw [if_pos h0, IdxStage.here _ l i hi (by simp [NextStage_1.p, h0])]
    · rw [if_neg h0, IdxStage.next _ l i hi (by simp [NextStage_1.p, h0])]
      exact spec_next_loop l hl hB d k (i + 1) (by omega) (by omega)
theorem spec_next (l : List S78) (k : Nat) (hl : l.length ≤ 1048576) (hk : 2 * l.length + 30 < k) : spec_NextStage.f k l = some (if stagesB l = true then IdxStage.f NextStage_1.p l 0 else -1) := by
  obtain ⟨k, rfl⟩ : ∃ m, k = m + 2 := ⟨k - 2, by omega⟩
  unfold spec_NextStage.f
  by_cases hB : stagesB l = true
  · rw [if_pos hB]
    exact spec_next_loop l (stagesB_len l hB) hB l.length (k + 2) 0 (by omega) (by omega)
  · have hB' : stagesB l = false := by simpa using hB
    rw [if_neg hB]
    simp only [spec_NextStage.l0, spec_NextStage.j1]
    split
    · rw [spec_stages l _ (by omega) (by omega), hB']
      simp
    · simp
theorem impl_next (l : List S78) (k : Nat) (hk : 24 < k) : impl_NextStage.f k l = some (if stagesB l = true then IdxStage.f NextStage_1.p l 0 else -1) := by
  unfold impl_NextStage.f
  rw [impl_stages l k hk, Option.bind_some]
  split <;> rfl

def finL (l : List S78) (i : Int) (day : Int) : List S78 := l.set i.toNat ⟨(rd_T78 l i).f0, (rd_T78 l i).f1, day⟩
def finR (l : List S78) (day : Int) : List S78 × Bool :=
  if stagesB l = true then (if IdxStage.f NextStage_1.p l 0 < 0 ∨ day = 0 then (l, false) else if stagesB (finL l (IdxStage.f NextStage_1.p l 0) day) = true then (finL l (IdxStage.f NextStage_1.p l 0) day, true) else (l, false)) else (l, false)
theorem idx_range (p : S78 → Bool) : ∀ (l : List S78) (i : Int), 0 ≤ i → IdxStage.f p l i = -1 ∨ i ≤ IdxStage.f p l i ∧ IdxStage.f p l i < i + l.length
  | [], i, _ => .inl rfl
  | x :: r, i, h => by
    rw [IdxStage.f]
    split
    · right; simp; omega
    · rcases idx_range p r (i + 1) (by omega) with h1 | h1
      · exact .inl h1
      · right; simp; omega
theorem finL_len (l : List S78) (i day : Int) : (finL l i day).length = l.length := by unfold finL; simp
theorem finR_len (l : List S78) (day : Int) : (finR l day).1.length = l.length := by
  unfold finR
  repeat' split
  all_goals first | rfl | exact finL_len _ _ _
theorem spec_finish (l : List S78) (day : Int) (k : Nat) (hl : l.length ≤ 1048576) (hk : 2 * l.length + 40 < k) : spec_FinishStage.f k l day = some (finR l day) := by
  obtain ⟨k, rfl⟩ : ∃ m, k = m + 1 := ⟨k - 1, by omega⟩
  have c1 : (([] : List S78).length + l.length < 5864062014805) = True := eq_true (by simp; omega)
  simp only [spec_FinishStage.f, Option.bind_some, c1, if_true, List.nil_append, spec_next l (k + 1) hl (by omega), spec_FinishStage.j0]
  unfold finR
  by_cases hB : stagesB l = true
  · simp only [hB, if_true]
    have hr := idx_range NextStage_1.p l 0 (by omega)
    generalize hi : IdxStage.f NextStage_1.p l 0 = ix at hr ⊢
    by_cases hn : ix < 0
    · simp [hn]
    · have c2 : (0 ≤ ix) = True := eq_true (by omega)
      have c3 : (ix < (l.length : Int)) = True := eq_true (by omega)
      have c4 := spec_stages (finL l ix day) k (by rw [finL_len]; omega) (by rw [finL_len]; omega)
      unfold finL at c4 ⊢
      by_cases hd : day = 0
      · simp [hn, hd]
      · have c5 : (day == 0) = false := by simpa using hd
        simp only [hn, hd, c5, c2, c3, c4, if_false, if_true, or_self, Bool.false_eq_true, false_or, Option.bind_some]
        split
        · rfl
        · rfl
  · simp [hB]
theorem impl_finish (l : List S78) (day : Int) (k : Nat) (hl : l.length ≤ 1048576) (hk : 40 < k) : impl_FinishStage.f k l day = some (finR l day) := by
  obtain ⟨k, rfl⟩ : ∃ m, k = m + 1 := ⟨k - 1, by omega⟩
  have c0 : ∀ x : List S78, x.length ≤ 1048576 → impl_Stage_49.f x = some x := fun x hx => by unfold impl_Stage_49.f; rw [if_pos (by omega)]
  simp only [impl_FinishStage.f, Option.bind_some, impl_next l (k + 1) (by omega), impl_FinishStage.j0, c0 l hl]
  unfold finR
  by_cases hB : stagesB l = true
  · simp only [hB, if_true]
    have hr := idx_range NextStage_1.p l 0 (by omega)
    generalize hi : IdxStage.f NextStage_1.p l 0 = ix at hr ⊢
    by_cases hn : ix < 0
    · simp [hn]
    · have c2 : (0 ≤ ix) = True := eq_true (by omega)
      have c3 : (ix < (l.length : Int)) = True := eq_true (by omega)
      have c4 := impl_stages (finL l ix day) k (by omega)
      unfold finL at c4 ⊢
      by_cases hd : day = 0
      · simp [hn, hd]
      · have c5 : (day == 0) = false := by simpa using hd
        simp only [hn, hd, c5, c2, c3, c4, if_false, if_true, or_self, Bool.false_eq_true, false_or, Option.bind_some]
        split
        · rfl
        · rfl
  · simp [hB]

theorem FnExactFinishStage : laws_FnExactFinishStage.Pure := by
  intro l a hl _
  by_cases hb : 1048576 < l.length
  · exact ⟨0, by unfold laws_FnExactFinishStage.f; rw [szStageS_big l hl.1 hb]; simp⟩
  · have hb : l.length ≤ 1048576 := by omega
    obtain ⟨K, hK⟩ : ∃ K, K = 2 * l.length + 61 := ⟨_, rfl⟩
    refine ⟨K + 3, ?_⟩
    have hm : (l.map cvStage).length = l.length := List.length_map ..
    have hf := finR_len (l.map cvStage) a
    have n3 : ((1048576 : Int) - (l.length : Int) < 0) = False := eq_false (by omega)
    have a1 := fun j (hj : K ≤ j) => toStageS_eq l j hb (by omega)
    have a2 := spec_finish (l.map cvStage) a (K + 3) (by omega) (by omega)
    have a3 := fun j (hj : K ≤ j) => impl_finish (l.map cvStage) a j (by omega) (by omega)
    have a5 := fun (x : List S78) (hx : x.length = l.length) j (hj : K ≤ j) => eqStageS_refl x j (by omega) (by omega)
    obtain ⟨y1, b1, _, _⟩ := markStageS_eq (l.map cvStage) 1 (by omega) (K + 2) (by omega) (by omega)
    obtain ⟨y2, d1, d2, d3⟩ := markStageS_eq (finR (l.map cvStage) a).1 1 (by omega) (K + 1) (by omega) (by omega)
    have e1 := heldStageS_eq y2 1 (by omega) (K + 1) (by omega) (by omega) (fun j hj => d3 j (by omega))
    have e2 := heldStageS_eq y2 1 (by omega) K (by omega) (by omega) (fun j hj => d3 j (by omega))
    rw [d2] at e1 e2
    have n1 : ((1 : Int) + 3 * ((l.map cvStage).length : Int) < 0) = False := eq_false (by omega)
    have n2 : ((1 : Int) + 3 * ((finR (l.map cvStage) a).1.length : Int) < 0) = False := eq_false (by omega)
    simp only [laws_FnExactFinishStage.f, szStageS_ok l hb, Option.bind_some, n3, n1, n2, a1 (K + 3) (by omega), a1 (K + 2) (by omega), a1 (K + 1) (by omega), a1 K (by omega), a2, a3 (K + 3) (by omega), a3 (K + 1) (by omega), a3 (K + 2) (by omega),
      a5 (finR (l.map cvStage) a).1 (by omega) (K + 3) (by omega), a5 (finR (l.map cvStage) a).1 (by omega) (K + 2) (by omega), a5 (finR (l.map cvStage) a).1 (by omega) (K + 1) (by omega), a5 (l.map cvStage) (by omega) (K + 2) (by omega), b1, d1, e1, e2, if_true, if_false, laws_FnExactFinishStage.j0, laws_FnExactFinishStage.j1, laws_FnExactFinishStage.j2, bne_self_eq_false, Bool.false_eq_true]
end Go.Proofs.Ytgepdbkhcdoedaa.Pure
