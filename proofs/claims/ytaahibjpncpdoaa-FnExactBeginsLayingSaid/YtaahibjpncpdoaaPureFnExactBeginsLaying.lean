/- The law FnExactBeginsLaying of the given program is proved: for every input of its types that can be read, the call returns true and leaves its arguments as they were. No further condition. -/
import Derived.Test.YtaahibjpncpdoaaPFnExactBeginsLayingx2
namespace Go.Proofs.Ytaahibjpncpdoaa.Pure
open Go.RowKit Go.Proofs.Ytaahibjpncpdoaa.PFnExactBeginsLaying Go.Proofs.YtaahibjpncpdoaaW.PrintWords Go.Proofs.YtaahibjpncpdoaaW.PrintLast
set_option linter.unusedVariables false
set_option linter.unusedSimpArgs false
theorem set_mid {α : Type} (A : List α) (z v : α) (d i : Nat) (h : A.length = i) : (A ++ List.replicate (d + 1) z).set i v = (A ++ [v]) ++ List.replicate d z := by
  subst h
  simp [List.replicate_succ]
theorem take_next {α β : Type} (f : α → β) (l : List α) (i : Nat) (h : i < l.length) : (l.take i).map f ++ [f l[i]] = (l.take (i + 1)).map f := by
  rw [List.take_succ_eq_append_getElem h, List.map_append]
  rfl
theorem wrap_small {n : Int} (h : -9223372036854775808 ≤ n ∧ n ≤ 9223372036854775807) : wrap64 n = n := by
  unfold wrap64
  omega
theorem take_next1 (l : List Int) (i : Nat) (h : i < l.length) : l.take i ++ [l[i]] = l.take (i + 1) := by
  rw [List.take_succ_eq_append_getElem h]
theorem toIntS_loop (l : List Int) (hl : l.length ≤ 1048576) : ∀ (d k i : Nat), i + d = l.length → d < k →
    laws_toIntS.l0 k l (l.take i ++ List.replicate d 0) (i : Int) = some l
  | d, 0, i, _, hk => by omega
  | 0, k + 1, i, h, _ => by
    simp only [laws_toIntS.l0]
    rw [if_neg (by omega)]
    obtain rfl : i = l.length := by omega
    simp
  | d + 1, k + 1, i, h, hk => by
    have hi : i < l.length := by omega
    have e : rd l (i : Int) = l[i] := by simp [rd, hi]
    simp only [laws_toIntS.l0]
    rw [if_pos (by omega), if_pos (by omega), if_pos (by simp; omega), e, Int.toNat_natCast, set_mid _ _ _ _ _ (by simp; omega), wrap_small (by omega), take_next1 l i hi]
    exact toIntS_loop l hl d k (i + 1) (by omega) (by omega)
theorem toIntS_eq (l : List Int) (k : Nat) (hl : l.length ≤ 1048576) (hk : l.length < k) : laws_toIntS.f k l = some l := by
  unfold laws_toIntS.f
  rw [if_pos (by omega), if_pos (by rw [Int.toNat_natCast]; omega), Int.toNat_natCast]
  have h := toIntS_loop l hl l.length k 0 (by omega) hk
  simpa using h
theorem eqIntS_loop (l : List Int) (hl : l.length ≤ 4611686018427387904) : ∀ (d k i : Nat), i + d = l.length → d < k → laws_eqIntS.l0 k l l (i : Int) = some true
  | d, 0, i, _, hk => by omega
  | 0, k + 1, i, h, _ => by
    simp only [laws_eqIntS.l0]
    rw [if_neg (by omega)]
  | d + 1, k + 1, i, h, hk => by
    simp only [laws_eqIntS.l0, if_true]
    rw [if_pos (by omega), if_pos (by omega), if_pos (by omega), wrap_small (by omega)]
    exact eqIntS_loop l hl d k (i + 1) (by omega) (by omega)
theorem eqIntS_refl (l : List Int) (k : Nat) (hl : l.length ≤ 4611686018427387904) (hk : l.length < k) : laws_eqIntS.f k l l = some true := by
  unfold laws_eqIntS.f
  rw [if_pos rfl]
  exact eqIntS_loop l hl l.length k 0 (by omega) hk
theorem l01in (a b c : Int) : spec_l01In.f a b c = some (decide (b ≤ a ∧ a ≤ c)) := by
  unfold spec_l01In.f
  by_cases h : a ≥ b
  · rw [if_pos h]; simp [h]
  · rw [if_neg h]; simp [show ¬ b ≤ a from h]

theorem win (a b c : Int) : impl_within.f a b c = some (decide (b ≤ a ∧ a ≤ c)) := by
  unfold impl_within.f
  by_cases h : b ≤ a
  · rw [if_pos h]; simp [h]
  · rw [if_neg h]; simp [h]

theorem sides_le (n : Int) : ∀ (r : List Int) (a b : Int), a + b ≤ n → ((laying.sides n r a b).length : Int) ≤ n - (a + b) ∧ (laying.sides n r a b).length ≤ r.length
  | [], a, b, h => by simp [laying.sides]; omega
  | z :: r, a, b, h => by
    rw [laying.sides]
    split
    · simp; omega
    · split
      · have := sides_le n r (a + 1) b (by omega); simp; omega
      · split
        · have := sides_le n r a (b + 1) (by omega); simp; omega
        · simp; omega
theorem begins_loop (n : Int) (l : List Int) (hn : 1 ≤ n ∧ n ≤ 8) (hl : (l.length : Int) ≤ n) : ∀ (d k i : Nat) (a b : Int), i + d = l.length → 0 ≤ a → 0 ≤ b → a + b = i → d < k →
    spec_BeginsLaying.l0 k l a (n - 1 - b) (i : Int) = some (decide ((laying.sides n (l.drop i) a b).length = d))
  | d, 0, i, a, b, _, _, _, _, hk => by omega
  | 0, k + 1, i, a, b, h, _, _, _, _ => by
    have c1 : ((i : Int) < (l.length : Int)) = False := eq_false (by omega)
    simp only [spec_BeginsLaying.l0, c1, if_false]
    rw [List.drop_of_length_le (by omega)]
    simp [laying.sides]
  | d + 1, k + 1, i, a, b, h, ha, hb, hab, hk => by
    have hi : i < l.length := by omega
    have c1 : ((i : Int) < (l.length : Int)) = True := eq_true (by omega)
    have c2 : ((0 : Int) ≤ (i : Int)) = True := eq_true (by omega)
    have c4 : wrap64 ((i : Int) + 1) = ((i + 1 : Nat) : Int) := wrap_small (n := (i : Int) + 1) (by omega)
    have e : rd l (i : Int) = l[i] := by simp [rd, hi]
    simp only [spec_BeginsLaying.l0, c1, c2, c4, if_true, e]
    rw [List.drop_eq_getElem_cons hi, laying.sides, if_neg (show ¬ a + b = n by omega), wrap_small (n := a + 1) (by omega), wrap_small (n := n - 1 - b - 1) (by omega)]
    by_cases h1 : l[i] = a
    · rw [if_pos h1, if_pos h1, begins_loop n l hn hl d k (i + 1) (a + 1) b (by omega) (by omega) hb (by omega) (by omega)]
      simp
    · rw [if_neg h1, if_neg h1]
      by_cases h2 : l[i] = n - 1 - b
      · rw [if_pos h2, if_pos h2, show n - 1 - b - 1 = n - 1 - (b + 1) by omega, begins_loop n l hn hl d k (i + 1) a (b + 1) (by omega) ha (by omega) (by omega) (by omega)]
        simp
      · rw [if_neg h2, if_neg h2]
        simp
def beginsB (n : Int) (l : List Int) : Bool := decide (1 ≤ n ∧ n ≤ 8) && ((laying.sides n l 0 0).length == l.length)
theorem impl_begins (n : Int) (l : List Int) : impl_BeginsLaying.f n l = some (beginsB n l) := by
  unfold impl_BeginsLaying.f impl_laidOf.f beginsB
  rw [win]
  simp only [Option.bind_some]
  by_cases h : 1 ≤ n ∧ n ≤ 8
  · rw [decide_eq_true h, if_pos rfl, if_pos h]
    simp only [Option.bind_some, Bool.true_and]
    congr 1
    rw [Bool.eq_iff_iff]
    simp
    omega
  · rw [decide_eq_false h, if_neg (by simp)]
    simp
theorem spec_begins (n : Int) (l : List Int) (k : Nat) (hl : l.length ≤ 1048576) (hk : l.length + 1 < k) : spec_BeginsLaying.f k n l = some (beginsB n l) := by
  obtain ⟨k, rfl⟩ : ∃ m, k = m + 1 := ⟨k - 1, by omega⟩
  unfold spec_BeginsLaying.f beginsB
  rw [l01in]
  simp only [Option.bind_some, spec_BeginsLaying.j0]
  by_cases h : 1 ≤ n ∧ n ≤ 8
  · rw [decide_eq_true h, if_pos rfl]
    have hs := sides_le n l 0 0 (by omega)
    by_cases h2 : (l.length : Int) > n
    · rw [decide_eq_true h2, if_pos rfl]
      congr 1
      symm
      rw [Bool.true_and, beq_eq_false_iff_ne]
      omega
    · rw [decide_eq_false h2, if_neg (by simp), wrap_small (n := n - 1) (by omega)]
      have := begins_loop n l h (by omega) l.length k 0 0 0 (by omega) (by omega) (by omega) (by omega) (by omega)
      rw [show n - 1 - 0 = n - 1 by omega, show ((0 : Nat) : Int) = 0 from rfl] at this
      rw [this, Bool.true_and]
      congr 1
  · rw [decide_eq_false h, if_neg (by simp)]
    simp

theorem FnExactBeginsLaying : laws_FnExactBeginsLaying.Pure := by
  intro n l _ hl _ _
  by_cases hb : (l.length : Int) > 1048576
  · exact ⟨0, by unfold laws_FnExactBeginsLaying.f; rw [if_pos hb]⟩
  · have hb' : l.length ≤ 1048576 := by omega
    refine ⟨l.length + 5, ?_⟩
    have a1 := toIntS_eq l (l.length + 5) hb' (by omega)
    have a2 := spec_begins n l (l.length + 5) hb' (by omega)
    have a3 := impl_begins n l
    have a4 := eqIntS_refl l (l.length + 5) (by omega) (by omega)
    simp only [laws_FnExactBeginsLaying.f, hb, if_false, a1, a2, a3, a4, Option.bind_some, bne_self_eq_false, Bool.false_eq_true, if_true]
end Go.Proofs.Ytaahibjpncpdoaa.Pure
