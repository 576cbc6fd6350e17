/- The law FnExactSameArch of the given program is proved: for every input of its types that can be read, the call returns true and leaves its arguments as they were. No further condition. -/
import Derived.Test.YtgepdbkhcdoedaaPFnExactSameArchx4
namespace Go.Proofs.Ytgepdbkhcdoedaa.Pure
open Go.RowKit Go.Proofs.Ytgepdbkhcdoedaa.PFnExactSameArch Go.Proofs.YtgepdbkhcdoedaaW.PrintWords Go.Proofs.YtgepdbkhcdoedaaW.PrintLast
set_option linter.unusedVariables false
set_option linter.unusedSimpArgs false
theorem set_mid {α : Type} (A : List α) (z v : α) (d i : Nat) (h : A.length = i) : (A ++ List.replicate (d + 1) z).set i v = (A ++ [v]) ++ List.replicate d z := by
  subst h
  simp [List.replicate_succ]
theorem take_next {α β : Type} (f : α → β) (l : List α) (i : Nat) (h : i < l.length) : (l.take i).map f ++ [f l[i]] = (l.take (i + 1)).map f := by
  rw [List.take_succ_eq_append_getElem h, List.map_append]
  rfl
theorem wrap_small {n : Int} (h : -9223372036854775808 ≤ n ∧ n ≤ 9223372036854775807) : wrap64 n = n := by
  unfold wrap64
  omega
def cvJoint (x : S128) : S102 := ⟨⟨x.f0.f0, x.f0.f1⟩, ⟨x.f1.f0, x.f1.f1⟩⟩
theorem toJoint_eq (x : S128) : laws_toJoint.f (x.f0.f0) (x.f0.f1) (x.f1.f0) (x.f1.f1) = some (x.f0.f0, x.f0.f1, x.f1.f0, x.f1.f1) := by
  first | rfl | (simp [laws_toJoint.f]; done) | (unfold laws_toJoint.f laws_toPoint.f; rfl)
theorem toJointS_loop (l : List S128) (hl : l.length ≤ 1048576) : ∀ (d k i : Nat), i + d = l.length → d < k →
    laws_toJointS.l0 k l ((l.take i).map cvJoint ++ List.replicate d z102) (i : Int) = some (l.map cvJoint)
  | d, 0, i, _, hk => by omega
  | 0, k + 1, i, h, _ => by
    simp only [laws_toJointS.l0]
    rw [if_neg (by omega)]
    obtain rfl : i = l.length := by omega
    simp
  | d + 1, k + 1, i, h, hk => by
    have hi : i < l.length := by omega
    have e : rd_T128 l (i : Int) = l[i] := by simp [rd_T128, hi]
    simp only [laws_toJointS.l0]
    rw [if_pos (by omega), if_pos (by omega), e, toJoint_eq]
    simp only [Option.bind_some]
    rw [if_pos (by simp; omega), Int.toNat_natCast, set_mid _ _ _ _ _ (by simp; omega), wrap_small (by omega)]
    have hh := toJointS_loop l hl d k (i + 1) (by omega) (by omega)
    rw [← take_next cvJoint l i hi] at hh
    exact hh
theorem toJointS_eq (l : List S128) (k : Nat) (hl : l.length ≤ 1048576) (hk : l.length < k) : laws_toJointS.f k l = some (l.map cvJoint) := by
  unfold laws_toJointS.f
  rw [if_pos (by omega), if_pos (by rw [Int.toNat_natCast]; omega), Int.toNat_natCast]
  have h := toJointS_loop l hl l.length k 0 (by omega) hk
  simpa using h
theorem eqJoint_refl (x : S102) : laws_eqJoint.f (x.f0.f0) (x.f0.f1) (x.f1.f0) (x.f1.f1) (x.f0.f0) (x.f0.f1) (x.f1.f0) (x.f1.f1) = some true := by
  first | (simp [laws_eqJoint.f]; done) | (simp [laws_eqJoint.f, laws_eqPoint.f]; done)
theorem eqJointS_loop (l : List S102) (hl : l.length ≤ 1048576) : ∀ (d k i : Nat), i + d = l.length → d < k → laws_eqJointS.l0 k l l (i : Int) = some true
  | d, 0, i, _, hk => by omega
  | 0, k + 1, i, h, _ => by
    simp only [laws_eqJointS.l0]
    rw [if_neg (by omega)]
  | d + 1, k + 1, i, h, hk => by
    simp only [laws_eqJointS.l0]
    rw [if_pos (by omega), if_pos (by omega), if_pos (by omega), eqJoint_refl]
    simp only [Option.bind_some, if_true]
    rw [wrap_small (by omega)]
    exact eqJointS_loop l hl d k (i + 1) (by omega) (by omega)
theorem eqJointS_refl (l : List S102) (k : Nat) (hl : l.length ≤ 1048576) (hk : l.length < k) : laws_eqJointS.f k l l = some true := by
  unfold laws_eqJointS.f
  rw [if_pos rfl]
  exact eqJointS_loop l hl l.length k 0 (by omega) hk
theorem szJointS_big (l : List S128) (hl : l.length ≤ maxLen) (h : 1048576 < l.length) : laws_szJointS.f l 1048576 = some (-1) := by
  unfold maxLen at hl
  unfold laws_szJointS.f
  rw [wrap_small (by omega), if_pos (by omega)]
theorem szJointS_ok (l : List S128) (h : l.length ≤ 1048576) : laws_szJointS.f l 1048576 = some (1048576 - (l.length : Int)) := by
  unfold laws_szJointS.f
  rw [wrap_small (by omega), if_neg (by omega)]
theorem szJointS_if (l : List S128) (m : Int) (hm : 0 ≤ m ∧ m ≤ 1048576) (hl : l.length ≤ maxLen) : laws_szJointS.f l m = some (if m < (l.length : Int) then -1 else m - (l.length : Int)) := by
  unfold maxLen at hl
  unfold laws_szJointS.f
  rw [wrap_small (by omega)]
  by_cases h : m < (l.length : Int)
  · rw [if_pos (by omega), if_pos h]
  · rw [if_neg (by omega), if_neg h]
theorem same_loop (l m : List S102) (hl : l.length ≤ 1048576) (he : l.length = m.length) : ∀ (d ks ki i : Nat), i + d = l.length → d < ks → d < ki → ∃ r, spec_SameArch.l0 ks (i : Int) l m = some r ∧ impl_Joint.l0 ki l m (l.length : Int) (i : Int) = some r
  | d, 0, _, i, _, hk, _ => by omega
  | d, _, 0, i, _, _, hk => by omega
  | 0, ks + 1, ki + 1, i, h, _, _ => by
    have c1 : ((i : Int) < (l.length : Int)) = False := eq_false (by omega)
    simp only [spec_SameArch.l0, impl_Joint.l0, c1, if_false]
    exact ⟨_, rfl, rfl⟩
  | d + 1, ks + 1, ki + 1, i, h, hks, hki => by
    have c1 : ((i : Int) < (l.length : Int)) = True := eq_true (by omega)
    have c2 : ((0 : Int) ≤ (i : Int)) = True := eq_true (by omega)
    have c3 : ((i : Int) < (m.length : Int)) = True := eq_true (by omega)
    have c4 : wrap64 ((i : Int) + 1) = ((i + 1 : Nat) : Int) := wrap_small (n := (i : Int) + 1) (by omega)
    simp only [spec_SameArch.l0, impl_Joint.l0, c1, c2, c3, c4, if_true]
    have ih := same_loop l m hl he d ks ki (i + 1) (by omega) (by omega) (by omega)
    split
    · exact ⟨_, rfl, rfl⟩
    · exact ih
theorem same_eq (l m : List S102) (hl : l.length ≤ 1048576) (k : Nat) (hk : l.length < k) : ∃ r, spec_SameArch.f k l m = some r ∧ impl_SameArch.f k l m = some r := by
  unfold spec_SameArch.f impl_SameArch.f impl_Joint.f
  by_cases he : (l.length : Int) = (m.length : Int)
  · rw [if_pos he, if_pos he]
    obtain ⟨r, h1, h2⟩ := same_loop l m hl (by omega) l.length k k 0 (by omega) hk hk
    rw [show ((0 : Nat) : Int) = 0 from rfl] at h1 h2
    exact ⟨r, h1, by rw [h2]; rfl⟩
  · rw [if_neg he, if_neg he]
    exact ⟨false, rfl, rfl⟩
theorem toArch_eq (l : List S128) (k : Nat) (hl : l.length ≤ 1048576) (hk : l.length < k) : laws_toArch.f k l = some (l.map cvJoint) := by
  unfold laws_toArch.f
  rw [toJointS_eq l k hl hk]
  rfl
theorem eqArch_refl (l : List S102) (k : Nat) (hl : l.length ≤ 1048576) (hk : l.length < k) : laws_eqArch.f k l l = some true := by
  unfold laws_eqArch.f
  rw [eqJointS_refl l k hl hk]
  rfl
theorem szArch_if (l : List S128) (m : Int) (hm : 0 ≤ m ∧ m ≤ 1048576) (hl : l.length ≤ maxLen) : laws_szArch.f l m = some (if m < (l.length : Int) then -1 else m - (l.length : Int)) := by
  unfold laws_szArch.f
  rw [szJointS_if l m hm hl]
  simp only [Option.bind_some]
  by_cases h : m < (l.length : Int)
  · rw [if_pos h]; rfl
  · rw [if_neg h, if_neg (by omega)]
theorem FnExactSameArch : laws_FnExactSameArch.Pure := by
  intro l m hl hm
  by_cases hb : (1048576 : Int) < (l.length : Int)
  · exact ⟨0, by simp [laws_FnExactSameArch.f, szArch_if l 1048576 (by omega) hl.1, hb]⟩
  · have e1 := szArch_if l 1048576 (by omega) hl.1
    rw [if_neg hb] at e1
    have e2 := szArch_if m (1048576 - (l.length : Int)) (by omega) hm.1
    have n1 : ((1048576 : Int) - (l.length : Int) < 0) = False := eq_false (by omega)
    by_cases hb2 : (1048576 : Int) - (l.length : Int) < (m.length : Int)
    · rw [if_pos hb2] at e2
      exact ⟨0, by simp [laws_FnExactSameArch.f, e1, n1, e2]⟩
    · rw [if_neg hb2] at e2
      have n2 : ((1048576 : Int) - (l.length : Int) - (m.length : Int) < 0) = False := eq_false (by omega)
      obtain ⟨K, hK⟩ : ∃ K, K = l.length + m.length + 1 := ⟨_, rfl⟩
      have hlm : (l.map cvJoint).length = l.length := List.length_map ..
      have hmm : (m.map cvJoint).length = m.length := List.length_map ..
      obtain ⟨r, h1, h2⟩ := same_eq (l.map cvJoint) (m.map cvJoint) (by omega) K (by omega)
      have a1 := toArch_eq l K (by omega) (by omega)
      have a2 := toArch_eq m K (by omega) (by omega)
      have a3 := eqArch_refl (l.map cvJoint) K (by omega) (by omega)
      have a4 := eqArch_refl (m.map cvJoint) K (by omega) (by omega)
      refine ⟨K, ?_⟩
      simp only [laws_FnExactSameArch.f, e1, n1, e2, n2, Option.bind_some, if_false, if_true, a1, a2, a3, a4, h1, h2]
      simp
end Go.Proofs.Ytgepdbkhcdoedaa.Pure
