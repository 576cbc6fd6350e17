/- The law FnExactAllSet of the given program is proved: for every input of its types that can be read, the call returns true and leaves its arguments as they were. No further condition. -/
import Derived.Test.YtaahibjpncpdoaaPFnExactAllSetx2
namespace Go.Proofs.Ytaahibjpncpdoaa.Pure
open Go.RowKit Go.Proofs.Ytaahibjpncpdoaa.PFnExactAllSet Go.Proofs.YtaahibjpncpdoaaW.PrintWords Go.Proofs.YtaahibjpncpdoaaW.PrintLast
set_option linter.unusedVariables false
set_option linter.unusedSimpArgs false
theorem l01in (a b c : Int) : spec_l01In.f a b c = some (decide (b ≤ a ∧ a ≤ c)) := by
  unfold spec_l01In.f
  by_cases h : a ≥ b
  · rw [if_pos h]; simp [h]
  · rw [if_neg h]; simp [show ¬ b ≤ a from h]

theorem spec_frost (a b : Int) : spec_IsFrost.f a b = some (decide (0 ≤ a) && (decide (a ≤ 2000) && (decide (0 ≤ b) && (decide (b ≤ 360) && decide (a % 360 < b))))) := by
  unfold spec_IsFrost.f
  rw [l01in]
  simp only [Option.bind_some]
  by_cases h : 0 ≤ a ∧ a ≤ 2000
  · rw [if_pos (decide_eq_true h), l01in]
    simp only [Option.bind_some]
    rw [decide_eq_true h.1, decide_eq_true h.2]
    by_cases h2 : 0 ≤ b ∧ b ≤ 360
    · rw [if_pos (decide_eq_true h2), decide_eq_true h2.1, decide_eq_true h2.2, Int.tmod_eq_emod_of_nonneg h.1]
      rfl
    · rw [if_neg (by simpa using h2)]
      simp; omega
  · rw [if_neg (by simpa using h)]
    simp; omega

theorem wrap_in {n : Int} (h : -9223372036854775808 ≤ n ∧ n ≤ 9223372036854775807) : wrap64 n = n := by
  unfold wrap64
  omega
theorem spec_sd (a : Int) (ha : 0 ≤ a ∧ a ≤ 300) : ∀ (n k : Nat) (day need : Int), 0 ≤ need → need ≤ 200 → 0 ≤ day → day + n = 2001 → 2 * n + 2 < k →
    spec_SetDay.l0 k a need day = some (impl_SetDay.sd a n day need)
  | n, 0, day, need, _, _, _, _, hk => by omega
  | n, 1, day, need, _, _, _, _, hk => by omega
  | 0, k + 2, day, need, h1, h2, h3, h4, hk => by
    simp only [spec_SetDay.l0, spec_SetDay.j2]
    have hd : ¬ day ≤ 2000 := by omega
    rw [decide_eq_false hd]
    simp only [Bool.false_eq_true, if_false]
    rw [if_pos (show day > 2000 by omega)]
    simp [impl_SetDay.sd]
  | n + 1, k + 2, day, need, h1, h2, h3, h4, hk => by
    have hd : day ≤ 2000 := by omega
    simp only [spec_SetDay.l0, spec_SetDay.j2]
    by_cases hn : need > 0
    · rw [if_pos hn, decide_eq_true hd]
      simp only [if_true]
      rw [spec_frost, Option.bind_some, decide_eq_true h3, decide_eq_true hd, decide_eq_true ha.1, decide_eq_true (show a ≤ 360 by omega)]
      simp only [Bool.true_and, decide_eq_true_eq]
      rw [wrap_in (n := day + 1) (by omega)]
      by_cases hf : day % 360 < a
      · rw [if_pos hf, impl_SetDay.sd_1 a n day need (by omega) hf]
        exact spec_sd a ha n k (day + 1) need h1 h2 (by omega) (by omega) (by omega)
      · rw [if_neg hf, impl_SetDay.sd_2 a n day need (by omega) hf, wrap_in (n := need - 1) (by omega)]
        exact spec_sd a ha n k (day + 1) (need - 1) (by omega) (by omega) (by omega) (by omega) (by omega)
    · rw [if_neg hn]
      simp only [Bool.false_eq_true, if_false]
      rw [if_neg (show ¬ day > 2000 by omega), impl_SetDay.sd_0 a n day need (by omega)]
theorem spec_bedok (a b : Int) : spec_BedOk.f a b = some (decide ((0 ≤ a ∧ a ≤ 1000) ∧ (0 ≤ b ∧ b ≤ 200))) := by
  unfold spec_BedOk.f
  rw [l01in]
  simp only [Option.bind_some]
  by_cases h : 0 ≤ a ∧ a ≤ 1000
  · rw [if_pos (decide_eq_true h), l01in]
    simp [h]
  · rw [if_neg (by simpa using h)]
    simp [h]
theorem spec_setday (a b c : Int) (k : Nat) (hk : 4010 < k) : spec_SetDay.f k a b c = impl_SetDay.f a b c := by
  obtain ⟨k, rfl⟩ : ∃ m, k = m + 1 := ⟨k - 1, by omega⟩
  unfold spec_SetDay.f impl_SetDay.f
  rw [spec_bedok]
  simp only [Option.bind_some]
  by_cases h : (0 ≤ a ∧ a ≤ 1000) ∧ (0 ≤ b ∧ b ≤ 200)
  · rw [if_pos (decide_eq_true h), l01in]
    simp only [Option.bind_some, spec_SetDay.j0]
    by_cases h2 : 0 ≤ c ∧ c ≤ 300
    · rw [if_neg (by simp [h2]), if_pos ⟨h.1, h.2, h2⟩]
      exact spec_sd c h2 _ k a b h.2.1 h.2.2 h.1.1 (by omega) (by omega)
    · rw [if_pos (by simp; omega), if_neg (fun hh => h2 hh.2.2)]
  · rw [if_neg (by simpa using h)]
    simp only [spec_SetDay.j0, if_true]
    rw [if_neg (fun hh => h ⟨hh.1, hh.2.1⟩)]

theorem set_mid {α : Type} (A : List α) (z v : α) (d i : Nat) (h : A.length = i) : (A ++ List.replicate (d + 1) z).set i v = (A ++ [v]) ++ List.replicate d z := by
  subst h
  simp [List.replicate_succ]
theorem take_next {α β : Type} (f : α → β) (l : List α) (i : Nat) (h : i < l.length) : (l.take i).map f ++ [f l[i]] = (l.take (i + 1)).map f := by
  rw [List.take_succ_eq_append_getElem h, List.map_append]
  rfl
theorem wrap_small {n : Int} (h : -9223372036854775808 ≤ n ∧ n ≤ 9223372036854775807) : wrap64 n = n := by
  unfold wrap64
  omega
def cvBed (x : S23) : S25 := ⟨x.f0, x.f1⟩
theorem toBed_eq (x : S23) : laws_toBed.f (x.f0) (x.f1) = some (x.f0, x.f1) := by
  first | rfl | (simp [laws_toBed.f]; done) | (unfold laws_toBed.f laws_toPoint.f; rfl)
theorem toBedS_loop (l : List S23) (hl : l.length ≤ 1048576) : ∀ (d k i : Nat), i + d = l.length → d < k →
    laws_toBedS.l0 k l ((l.take i).map cvBed ++ List.replicate d z25) (i : Int) = some (l.map cvBed)
  | d, 0, i, _, hk => by omega
  | 0, k + 1, i, h, _ => by
    simp only [laws_toBedS.l0]
    rw [if_neg (by omega)]
    obtain rfl : i = l.length := by omega
    simp
  | d + 1, k + 1, i, h, hk => by
    have hi : i < l.length := by omega
    have e : rd_T23 l (i : Int) = l[i] := by simp [rd_T23, hi]
    simp only [laws_toBedS.l0]
    rw [if_pos (by omega), if_pos (by omega), e, toBed_eq]
    simp only [Option.bind_some]
    rw [if_pos (by simp; omega), Int.toNat_natCast, set_mid _ _ _ _ _ (by simp; omega), wrap_small (by omega)]
    have hh := toBedS_loop l hl d k (i + 1) (by omega) (by omega)
    rw [← take_next cvBed l i hi] at hh
    exact hh
theorem toBedS_eq (l : List S23) (k : Nat) (hl : l.length ≤ 1048576) (hk : l.length < k) : laws_toBedS.f k l = some (l.map cvBed) := by
  unfold laws_toBedS.f
  rw [if_pos (by omega), if_pos (by rw [Int.toNat_natCast]; omega), Int.toNat_natCast]
  have h := toBedS_loop l hl l.length k 0 (by omega) hk
  simpa using h
theorem eqBed_refl (x : S25) : laws_eqBed.f (x.f0) (x.f1) (x.f0) (x.f1) = some true := by
  first | (simp [laws_eqBed.f]; done) | (simp [laws_eqBed.f, laws_eqPoint.f]; done)
theorem eqBedS_loop (l : List S25) (hl : l.length ≤ 1048576) : ∀ (d k i : Nat), i + d = l.length → d < k → laws_eqBedS.l0 k l l (i : Int) = some true
  | d, 0, i, _, hk => by omega
  | 0, k + 1, i, h, _ => by
    simp only [laws_eqBedS.l0]
    rw [if_neg (by omega)]
  | d + 1, k + 1, i, h, hk => by
    simp only [laws_eqBedS.l0]
    rw [if_pos (by omega), if_pos (by omega), if_pos (by omega), eqBed_refl]
    simp only [Option.bind_some, if_true]
    rw [wrap_small (by omega)]
    exact eqBedS_loop l hl d k (i + 1) (by omega) (by omega)
theorem eqBedS_refl (l : List S25) (k : Nat) (hl : l.length ≤ 1048576) (hk : l.length < k) : laws_eqBedS.f k l l = some true := by
  unfold laws_eqBedS.f
  rw [if_pos rfl]
  exact eqBedS_loop l hl l.length k 0 (by omega) hk
theorem szBedS_big (l : List S23) (hl : l.length ≤ maxLen) (h : 1048576 < l.length) : laws_szBedS.f l 1048576 = some (-1) := by
  unfold maxLen at hl
  unfold laws_szBedS.f
  rw [wrap_small (by omega), if_pos (by omega)]
theorem szBedS_ok (l : List S23) (h : l.length ≤ 1048576) : laws_szBedS.f l 1048576 = some (1048576 - (l.length : Int)) := by
  unfold laws_szBedS.f
  rw [wrap_small (by omega), if_neg (by omega)]
theorem setday_tells (a b c : Int) : ∃ r, impl_SetDay.f a b c = some r := by unfold impl_SetDay.f; exact ⟨_, rfl⟩
theorem allset_spec_big (l : List S25) (c : Int) (k : Nat) (hk : 4012 < k) (hl : 20 < l.length) : spec_AllSet.f k l c = some (-1) := by
  obtain ⟨k, rfl⟩ : ∃ m, k = m + 1 := ⟨k - 1, by omega⟩
  unfold spec_AllSet.f
  simp only [spec_AllSet.l0]
  rw [if_pos (by omega), if_pos (by omega), spec_setday _ _ _ _ (by omega)]
  obtain ⟨r, hr⟩ := setday_tells (rd_T25 l 0).f0 (rd_T25 l 0).f1 c
  rw [hr]
  simp only [Option.bind_some]
  rw [if_pos (show (l.length : Int) > 20 by omega)]
  split <;> rfl
theorem allset_same (l : List S25) (c : Int) (hl : l.length ≤ 20) : ∀ (d ks ki i : Nat) (n : Int), i + d = l.length → d + 4012 < ks → d < ki → ∃ r, spec_AllSet.l0 ks l c n (i : Int) = some r ∧ impl_AllSet.l0 ki c n l (l.length : Int) (i : Int) = some r
  | d, 0, _, i, n, _, hk, _ => by omega
  | d, _, 0, i, n, _, _, hk => by omega
  | 0, ks + 1, ki + 1, i, n, h, _, _ => by
    simp only [spec_AllSet.l0, impl_AllSet.l0]
    rw [if_neg (by omega), if_neg (by omega)]
    exact ⟨_, rfl, rfl⟩
  | d + 1, ks + 1, ki + 1, i, n, h, hks, hki => by
    simp only [spec_AllSet.l0, impl_AllSet.l0]
    rw [if_pos (by omega), if_pos (by omega), if_pos (by omega), if_pos (by omega), if_pos (by omega), spec_setday _ _ _ _ (by omega)]
    obtain ⟨r, hr⟩ := setday_tells (rd_T25 l i).f0 (rd_T25 l i).f1 c
    rw [hr]
    simp only [Option.bind_some]
    rw [if_neg (show ¬ (l.length : Int) > 20 by omega), wrap_small (n := (i : Int) + 1) (by omega)]
    obtain ⟨q, h1, h2⟩ := allset_same l c hl d ks ki (i + 1) (mx n r) (by omega) (by omega) (by omega)
    by_cases hz : r < 0
    · rw [if_pos hz, if_pos hz]; exact ⟨_, rfl, rfl⟩
    · rw [if_neg hz, if_neg hz]; exact ⟨q, h1, h2⟩
theorem allset_eq (l : List S25) (c : Int) (hl : l.length ≤ 1048576) (k : Nat) (hk : l.length + 4012 < k) : ∃ r, spec_AllSet.f k l c = some r ∧ impl_AllSet.f k l c = some r := by
  by_cases h20 : 20 < l.length
  · refine ⟨-1, allset_spec_big _ c _ (by omega) (by omega), ?_⟩
    unfold impl_AllSet.f
    rw [if_pos (by omega)]
  · obtain ⟨r, h1, h2⟩ := allset_same l c (by omega) l.length k k 0 0 (by omega) (by omega) (by omega)
    refine ⟨r, h1, ?_⟩
    unfold impl_AllSet.f
    rw [if_neg (by omega)]
    exact h2

theorem FnExactAllSet : laws_FnExactAllSet.Pure := by
  intro l c hl _
  by_cases hb : 1048576 < l.length
  · exact ⟨0, by unfold laws_FnExactAllSet.f; rw [szBedS_big l hl.1 hb]; simp⟩
  · have hb : l.length ≤ 1048576 := by omega
    refine ⟨l.length + 1 + 4012, ?_⟩
    unfold laws_FnExactAllSet.f
    rw [szBedS_ok l hb, Option.bind_some, if_neg (by omega), toBedS_eq l _ hb (by omega)]
    simp only [Option.bind_some]
    have hm : (l.map cvBed).length = l.length := List.length_map ..
    obtain ⟨r, h1, h2⟩ := allset_eq (l.map cvBed) c (by omega) (l.length + 1 + 4012) (by omega)
    rw [h1, Option.bind_some, h2, Option.bind_some, if_pos rfl, eqBedS_refl _ _ (by omega) (by omega)]
    rfl
end Go.Proofs.Ytaahibjpncpdoaa.Pure
