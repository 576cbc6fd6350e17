/- The law FnExactSetOn of the given program is proved: for every input of its types that can be read, the call returns true and leaves its arguments as they were. No further condition. -/
import Derived.Test.YtgepdbkhcdoedaaPFnExactSetOnx4
namespace Go.Proofs.Ytgepdbkhcdoedaa.Pure
open Go.RowKit Go.Proofs.Ytgepdbkhcdoedaa.PFnExactSetOn Go.Proofs.YtgepdbkhcdoedaaW.PrintWords Go.Proofs.YtgepdbkhcdoedaaW.PrintLast
set_option linter.unusedVariables false
set_option linter.unusedSimpArgs false
theorem l01in (a b c : Int) : spec_l01In.f a b c = some (decide (b ≤ a ∧ a ≤ c)) := by
  unfold spec_l01In.f
  by_cases h : a ≥ b
  · rw [if_pos h]; simp [h]
  · rw [if_neg h]; simp [show ¬ b ≤ a from h]

theorem spec_frost (a b : Int) : spec_IsFrost.f a b = some (decide (0 ≤ a) && (decide (a ≤ 2000) && (decide (0 ≤ b) && (decide (b ≤ 360) && decide (a % 360 < b))))) := by
  unfold spec_IsFrost.f
  rw [l01in]
  simp only [Option.bind_some]
  by_cases h : 0 ≤ a ∧ a ≤ 2000
  · rw [if_pos (decide_eq_true h), l01in]
    simp only [Option.bind_some]
    rw [decide_eq_true h.1, decide_eq_true h.2]
    by_cases h2 : 0 ≤ b ∧ b ≤ 360
    · rw [if_pos (decide_eq_true h2), decide_eq_true h2.1, decide_eq_true h2.2, Int.tmod_eq_emod_of_nonneg h.1]
      rfl
    · rw [if_neg (by simpa using h2)]
      simp; omega
  · rw [if_neg (by simpa using h)]
    simp; omega

theorem wrap_in {n : Int} (h : -9223372036854775808 ≤ n ∧ n ≤ 9223372036854775807) : wrap64 n = n := by
  unfold wrap64
  omega
theorem spec_sd (a : Int) (ha : 0 ≤ a ∧ a ≤ 300) : ∀ (n k : Nat) (day need : Int), 0 ≤ need → need ≤ 200 → 0 ≤ day → day + n = 2001 → 2 * n + 2 < k →
    spec_SetDay.l0 k a need day = some (impl_SetDay.sd a n day need)
  | n, 0, day, need, _, _, _, _, hk => by omega
  | n, 1, day, need, _, _, _, _, hk => by omega
  | 0, k + 2, day, need, h1, h2, h3, h4, hk => by
    simp only [spec_SetDay.l0, spec_SetDay.j2]
    have hd : ¬ day ≤ 2000 := by omega
    rw [decide_eq_false hd]
    simp only [Bool.false_eq_true, if_false]
    rw [if_pos (show day > 2000 by omega)]
    simp [impl_SetDay.sd]
  | n + 1, k + 2, day, need, h1, h2, h3, h4, hk => by
    have hd : day ≤ 2000 := by omega
    simp only [spec_SetDay.l0, spec_SetDay.j2]
    by_cases hn : need > 0
    · rw [if_pos hn, decide_eq_true hd]
      simp only [if_true]
      rw [spec_frost, Option.bind_some, decide_eq_true h3, decide_eq_true hd, decide_eq_true ha.1, decide_eq_true (show a ≤ 360 by omega)]
      simp only [Bool.true_and, decide_eq_true_eq]
      rw [wrap_in (n := day + 1) (by omega)]
      by_cases hf : day % 360 < a
      · rw [if_pos hf, impl_SetDay.sd_1 a n day need (by omega) hf]
        exact spec_sd a ha n k (day + 1) need h1 h2 (by omega) (by omega) (by omega)
      · rw [if_neg hf, impl_SetDay.sd_2 a n day need (by omega) hf, wrap_in (n := need - 1) (by omega)]
        exact spec_sd a ha n k (day + 1) (need - 1) (by omega) (by omega) (by omega) (by omega) (by omega)
    · rw [if_neg hn]
      simp only [Bool.false_eq_true, if_false]
      rw [if_neg (show ¬ day > 2000 by omega), impl_SetDay.sd_0 a n day need (by omega)]
theorem spec_bedok (a b : Int) : spec_BedOk.f a b = some (decide ((0 ≤ a ∧ a ≤ 1000) ∧ (0 ≤ b ∧ b ≤ 200))) := by
  unfold spec_BedOk.f
  rw [l01in]
  simp only [Option.bind_some]
  by_cases h : 0 ≤ a ∧ a ≤ 1000
  · rw [if_pos (decide_eq_true h), l01in]
    simp [h]
  · rw [if_neg (by simpa using h)]
    simp [h]
theorem spec_setday (a b c : Int) (k : Nat) (hk : 4010 < k) : spec_SetDay.f k a b c = impl_SetDay.f a b c := by
  obtain ⟨k, rfl⟩ : ∃ m, k = m + 1 := ⟨k - 1, by omega⟩
  unfold spec_SetDay.f impl_SetDay.f
  rw [spec_bedok]
  simp only [Option.bind_some]
  by_cases h : (0 ≤ a ∧ a ≤ 1000) ∧ (0 ≤ b ∧ b ≤ 200)
  · rw [if_pos (decide_eq_true h), l01in]
    simp only [Option.bind_some, spec_SetDay.j0]
    by_cases h2 : 0 ≤ c ∧ c ≤ 300
    · rw [if_neg (by simp [h2]), if_pos ⟨h.1, h.2, h2⟩]
      exact spec_sd c h2 _ k a b h.2.1 h.2.2 h.1.1 (by omega) (by omega)
    · rw [if_pos (by simp; omega), if_neg (fun hh => h2 hh.2.2)]
  · rw [if_neg (by simpa using h)]
    simp only [spec_SetDay.j0, if_true]
    rw [if_neg (fun hh => h ⟨hh.1, hh.2.1⟩)]

theorem set_mid {α : Type} (A : List α) (z v : α) (d i : Nat) (h : A.length = i) : (A ++ List.replicate (d + 1) z).set i v = (A ++ [v]) ++ List.replicate d z := by
  subst h
  simp [List.replicate_succ]
theorem take_next {α β : Type} (f : α → β) (l : List α) (i : Nat) (h : i < l.length) : (l.take i).map f ++ [f l[i]] = (l.take (i + 1)).map f := by
  rw [List.take_succ_eq_append_getElem h, List.map_append]
  rfl
theorem wrap_small {n : Int} (h : -9223372036854775808 ≤ n ∧ n ≤ 9223372036854775807) : wrap64 n = n := by
  unfold wrap64
  omega
def cvBed (x : S74) : S72 := ⟨x.f0, x.f1⟩
theorem toBed_eq (x : S74) : laws_toBed.f (x.f0) (x.f1) = some (x.f0, x.f1) := by
  first | rfl | (simp [laws_toBed.f]; done) | (unfold laws_toBed.f laws_toPoint.f; rfl)
theorem toBedS_loop (l : List S74) (hl : l.length ≤ 1048576) : ∀ (d k i : Nat), i + d = l.length → d < k →
    laws_toBedS.l0 k l ((l.take i).map cvBed ++ List.replicate d z72) (i : Int) = some (l.map cvBed)
  | d, 0, i, _, hk => by omega
  | 0, k + 1, i, h, _ => by
    simp only [laws_toBedS.l0]
    rw [if_neg (by omega)]
    obtain rfl : i = l.length := by omega
    simp
  | d + 1, k + 1, i, h, hk => by
    have hi : i < l.length := by omega
    have e : rd_T74 l (i : Int) = l[i] := by simp [rd_T74, hi]
    simp only [laws_toBedS.l0]
    rw [if_pos (by omega), if_pos (by omega), e, toBed_eq]
    simp only [Option.bind_some]
    rw [if_pos (by simp; omega), Int.toNat_natCast, set_mid _ _ _ _ _ (by simp; omega), wrap_small (by omega)]
    have hh := toBedS_loop l hl d k (i + 1) (by omega) (by omega)
    rw [← take_next cvBed l i hi] at hh
    exact hh
theorem toBedS_eq (l : List S74) (k : Nat) (hl : l.length ≤ 1048576) (hk : l.length < k) : laws_toBedS.f k l = some (l.map cvBed) := by
  unfold laws_toBedS.f
  rw [if_pos (by omega), if_pos (by rw [Int.toNat_natCast]; omega), Int.toNat_natCast]
  have h := toBedS_loop l hl l.length k 0 (by omega) hk
  simpa using h
theorem eqBed_refl (x : S72) : laws_eqBed.f (x.f0) (x.f1) (x.f0) (x.f1) = some true := by
  first | (simp [laws_eqBed.f]; done) | (simp [laws_eqBed.f, laws_eqPoint.f]; done)
theorem eqBedS_loop (l : List S72) (hl : l.length ≤ 1048576) : ∀ (d k i : Nat), i + d = l.length → d < k → laws_eqBedS.l0 k l l (i : Int) = some true
  | d, 0, i, _, hk => by omega
  | 0, k + 1, i, h, _ => by
    simp only [laws_eqBedS.l0]
    rw [if_neg (by omega)]
  | d + 1, k + 1, i, h, hk => by
    simp only [laws_eqBedS.l0]
    rw [if_pos (by omega), if_pos (by omega), if_pos (by omega), eqBed_refl]
    simp only [Option.bind_some, if_true]
    rw [wrap_small (by omega)]
    exact eqBedS_loop l hl d k (i + 1) (by omega) (by omega)
theorem eqBedS_refl (l : List S72) (k : Nat) (hl : l.length ≤ 1048576) (hk : l.length < k) : laws_eqBedS.f k l l = some true := by
  unfold laws_eqBedS.f
  rw [if_pos rfl]
  exact eqBedS_loop l hl l.length k 0 (by omega) hk
theorem szBedS_big (l : List S74) (hl : l.length ≤ maxLen) (h : 1048576 < l.length) : laws_szBedS.f l 1048576 = some (-1) := by
  unfold maxLen at hl
  unfold laws_szBedS.f
  rw [wrap_small (by omega), if_pos (by omega)]
theorem szBedS_ok (l : List S74) (h : l.length ≤ 1048576) : laws_szBedS.f l 1048576 = some (1048576 - (l.length : Int)) := by
  unfold laws_szBedS.f
  rw [wrap_small (by omega), if_neg (by omega)]
theorem szBedS_if (l : List S74) (m : Int) (hm : 0 ≤ m ∧ m ≤ 1048576) (hl : l.length ≤ maxLen) : laws_szBedS.f l m = some (if m < (l.length : Int) then -1 else m - (l.length : Int)) := by
  unfold maxLen at hl
  unfold laws_szBedS.f
  rw [wrap_small (by omega)]
  by_cases h : m < (l.length : Int)
  · rw [if_pos (by omega), if_pos h]
  · rw [if_neg (by omega), if_neg h]
theorem eqIntS_loop (l : List Int) (hl : l.length ≤ 4611686018427387904) : ∀ (d k i : Nat), i + d = l.length → d < k → laws_eqIntS.l0 k l l (i : Int) = some true
  | d, 0, i, _, hk => by omega
  | 0, k + 1, i, h, _ => by
    simp only [laws_eqIntS.l0]
    rw [if_neg (by omega)]
  | d + 1, k + 1, i, h, hk => by
    simp only [laws_eqIntS.l0, if_true]
    rw [if_pos (by omega), if_pos (by omega), if_pos (by omega), wrap_small (by omega)]
    exact eqIntS_loop l hl d k (i + 1) (by omega) (by omega)
theorem eqIntS_refl (l : List Int) (k : Nat) (hl : l.length ≤ 4611686018427387904) (hk : l.length < k) : laws_eqIntS.f k l l = some true := by
  unfold laws_eqIntS.f
  rw [if_pos rfl]
  exact eqIntS_loop l hl l.length k 0 (by omega) hk
theorem rd_set (l : List Int) (i j : Nat) (v : Int) (hi : i < l.length) : rd (l.set i v) (j : Int) = if j = i then v else rd l (j : Int) := by
  unfold rd
  rw [Int.toNat_natCast, List.getD_eq_getElem?_getD, List.getElem?_set, List.getD_eq_getElem?_getD]
  by_cases h : j = i
  · subst h; simp [hi]
  · rw [if_neg (fun e => h e.symm), if_neg h]
theorem markIntS_loop (m : Int) (hm : 0 ≤ m ∧ m ≤ 4611686018427387904) : ∀ (d k i : Nat) (l : List Int), l.length ≤ 1152921504606846976 → i + d = l.length → d < k →
    ∃ y, laws_markIntS.l0 k l (m + i) (i : Int) = some (m + (l.length : Int), y) ∧ y.length = l.length ∧ (∀ j, j < i → rd y (j : Int) = rd l (j : Int)) ∧ ∀ j, i ≤ j → j < l.length → rd y (j : Int) = m + (j : Int)
  | d, 0, i, l, _, _, hk => by omega
  | 0, k + 1, i, l, hl, h, _ => by
    simp only [laws_markIntS.l0]
    rw [if_neg (by omega)]
    exact ⟨l, by rw [show i = l.length by omega], rfl, fun _ _ => rfl, fun j _ _ => by omega⟩
  | d + 1, k + 1, i, l, hl, h, hk => by
    have hi : i < l.length := by omega
    simp only [laws_markIntS.l0]
    rw [if_pos (by omega), if_pos (by omega), Int.toNat_natCast, wrap_small (n := m + i + 1) (by omega), wrap_small (n := (i : Int) + 1) (by omega)]
    obtain ⟨y, h1, h2, h3, h4⟩ := markIntS_loop m hm d k (i + 1) (l.set i (m + i)) (by simpa using hl) (by simp; omega) (by omega)
    rw [show m + (i : Int) + 1 = m + ((i + 1 : Nat) : Int) by omega]
    rw [List.length_set] at h1 h2 h4
    refine ⟨y, h1, h2, fun j hj => ?_, fun j hj hj2 => ?_⟩
    · rw [h3 j (by omega), rd_set _ _ _ _ hi, if_neg (by omega)]
    · rcases Nat.lt_or_ge i j with hij | hij
      · exact h4 j (by omega) hj2
      · obtain rfl : j = i := by omega
        rw [h3 j (by omega), rd_set _ _ _ _ hi, if_pos rfl]
theorem heldIntS_loop (m : Int) (hm : 0 ≤ m ∧ m ≤ 4611686018427387904) (l : List Int) (hl : l.length ≤ 1152921504606846976) (hv : ∀ j, j < l.length → rd l (j : Int) = m + (j : Int)) : ∀ (d k i : Nat), i + d = l.length → d < k →
    laws_heldIntS.l0 k l (m + i) (i : Int) = some (m + (l.length : Int))
  | d, 0, i, _, hk => by omega
  | 0, k + 1, i, h, _ => by
    simp only [laws_heldIntS.l0]
    rw [if_neg (by omega), show i = l.length by omega]
  | d + 1, k + 1, i, h, hk => by
    simp only [laws_heldIntS.l0]
    rw [if_pos (by omega), if_pos (by omega), if_pos (hv i (by omega)), wrap_small (n := m + i + 1) (by omega), wrap_small (n := (i : Int) + 1) (by omega), show m + (i : Int) + 1 = m + ((i + 1 : Nat) : Int) by omega]
    exact heldIntS_loop m hm l hl hv d k (i + 1) (by omega) (by omega)
theorem markIntS_eq (l : List Int) (m : Int) (hm : 0 ≤ m ∧ m ≤ 4611686018427387904) (k : Nat) (hl : l.length ≤ 1152921504606846976) (hk : l.length < k) :
    ∃ y, laws_markIntS.f k l m = some (m + (l.length : Int), y) ∧ laws_heldIntS.f k y m = some (m + (l.length : Int)) ∧ y.length = l.length := by
  obtain ⟨y, h1, h2, _, h4⟩ := markIntS_loop m hm l.length k 0 l hl (by omega) hk
  have e0 : m + ((0 : Nat) : Int) = m := by omega
  rw [e0] at h1
  refine ⟨y, h1, ?_, h2⟩
  have h5 := heldIntS_loop m hm y (by omega) (fun j hj => h4 j (by omega) (by omega)) y.length k 0 (by omega) (by omega)
  rw [e0, h2] at h5
  exact h5
theorem markBedS_loop (m : Int) (hm : 0 ≤ m ∧ m ≤ 4611686018427387904) : ∀ (d k i : Nat) (l : List S72), l.length ≤ 1152921504606846976 / 2 → i + d = l.length → d < k →
    ∃ y, laws_markBedS.l0 k l (m + 2 * i) (i : Int) = some (m + 2 * (l.length : Int), y) ∧ y.length = l.length
  | d, 0, i, l, _, _, hk => by omega
  | 0, k + 1, i, l, hl, h, _ => by
    simp only [laws_markBedS.l0]
    rw [if_neg (by omega)]
    exact ⟨l, by rw [show i = l.length by omega], rfl⟩
  | d + 1, k + 1, i, l, hl, h, hk => by
    simp only [laws_markBedS.l0]
    rw [if_pos (by omega), if_pos (by omega)]
    simp only [Option.bind_some]
    rw [wrap_small (n := m + 2 * (i : Int) + 1) (by omega), wrap_small (n := m + 2 * (i : Int) + 1 + 1) (by omega), wrap_small (n := (i : Int) + 1) (by omega)]
    have key : ∀ L : List S72, L.length = l.length → ∃ y, laws_markBedS.l0 k L (m + 2 * (i : Int) + 1 + 1) ((i : Int) + 1) = some (m + 2 * (l.length : Int), y) ∧ y.length = l.length := by
      intro L hL
      obtain ⟨y, h1, h2⟩ := markBedS_loop m hm d k (i + 1) L (by omega) (by omega) (by omega)
      rw [show m + 2 * ((i + 1 : Nat) : Int) = m + 2 * (i : Int) + 1 + 1 by omega, hL] at h1
      exact ⟨y, h1, h2.trans hL⟩
    exact key _ (by simp only [List.length_set])
theorem markBedS_eq (l : List S72) (m : Int) (hm : 0 ≤ m ∧ m ≤ 4611686018427387904) (k : Nat) (hl : l.length ≤ 1048576) (hk : l.length < k) :
    ∃ y, laws_markBedS.f k l m = some (m + 2 * (l.length : Int), y) ∧ y.length = l.length := by
  obtain ⟨y, h1, h2⟩ := markBedS_loop m hm l.length k 0 l (by omega) (by omega) hk
  rw [show m + 2 * ((0 : Nat) : Int) = m by omega] at h1
  exact ⟨y, h1, h2⟩
theorem setday_tells (a b c : Int) : ∃ r, impl_SetDay.f a b c = some r := by unfold impl_SetDay.f; exact ⟨_, rfl⟩
theorem seton_same (l : List S72) (a b : Int) (hl : l.length ≤ 20) : ∀ (d ks ki i : Nat) (n : List Int), i + d = l.length → n.length ≤ i → 2 * d + 4012 < ks → d < ki → ∃ r, spec_SetOn.l0 ks l a b n (i : Int) = some r ∧ impl_SetOn.l0 ki a b n l (l.length : Int) (i : Int) = some r ∧ r.length ≤ l.length
  | d, 0, _, i, n, _, _, hk, _ => by omega
  | d, 1, _, i, n, _, _, hk, _ => by omega
  | d, _, 0, i, n, _, _, _, hk => by omega
  | 0, ks + 2, ki + 1, i, n, h, hn, _, _ => by
    have c1 : ((i : Int) < (l.length : Int)) = False := eq_false (by omega)
    simp only [spec_SetOn.l0, impl_SetOn.l0, spec_SetOn.j1, c1, if_false, Bool.false_eq_true]
    exact ⟨_, rfl, rfl, by omega⟩
  | d + 1, ks + 2, ki + 1, i, n, h, hn, hks, hki => by
    have c1 : ((i : Int) < (l.length : Int)) = True := eq_true (by omega)
    have c2 : ((0 : Int) ≤ (i : Int)) = True := eq_true (by omega)
    have c3 : (n.length < 17592186044416) = True := eq_true (by omega)
    have c4 : wrap64 ((i : Int) + 1) = ((i + 1 : Nat) : Int) := wrap_small (n := (i : Int) + 1) (by omega)
    have c6 : decide ((l.length : Int) ≤ 20) = true := decide_eq_true (by omega)
    obtain ⟨r, hr⟩ := setday_tells (rd_T72 l i).f0 (rd_T72 l i).f1 a
    have c5 : spec_SetDay.f ks (rd_T72 l i).f0 (rd_T72 l i).f1 a = some r := (spec_setday _ _ _ _ (by omega)).trans hr
    simp only [spec_SetOn.l0, impl_SetOn.l0, spec_SetOn.j1, c1, c2, c3, c4, c5, c6, hr, if_true, Option.bind_some]
    have h1 := seton_same l a b hl d ks ki (i + 1) (n ++ [(i : Int)]) (by omega) (by simp; omega) (by omega) (by omega)
    have h2 := seton_same l a b hl d ks ki (i + 1) n (by omega) (by omega) (by omega) (by omega)
    repeat' split
    all_goals first | exact h1 | exact h2
theorem seton_eq (l : List S72) (a b : Int) (k : Nat) (hl : l.length ≤ 1048576) (hk : 2 * l.length + 4060 < k) : ∃ r, spec_SetOn.f k l a b = some r ∧ impl_SetOn.f k l a b = some r ∧ r.length ≤ l.length := by
  obtain ⟨k, rfl⟩ : ∃ m, k = m + 2 := ⟨k - 2, by omega⟩
  unfold spec_SetOn.f impl_SetOn.f
  by_cases h20 : (l.length : Int) > 20
  · rw [if_pos h20]
    refine ⟨[], ?_, rfl, by simp⟩
    have c6 : decide ((l.length : Int) ≤ 20) = false := decide_eq_false (by omega)
    have c1 : ((0 : Int) < (l.length : Int)) = True := eq_true (by omega)
    simp only [spec_SetOn.l0, spec_SetOn.j1, c1, c6, if_true, Bool.false_eq_true, if_false]
  · rw [if_neg h20]
    obtain ⟨r, h1, h2, h3⟩ := seton_same l a b (by omega) l.length (k + 2) (k + 2) 0 [] (by omega) (by simp) (by omega) (by omega)
    exact ⟨r, h1, h2, h3⟩

theorem FnExactSetOn : laws_FnExactSetOn.Pure := by
  intro l a b hl _ _
  by_cases hb : 1048576 < l.length
  · exact ⟨0, by unfold laws_FnExactSetOn.f; rw [szBedS_big l hl.1 hb]; simp⟩
  · have hb : l.length ≤ 1048576 := by omega
    obtain ⟨K, hK⟩ : ∃ K, K = 2 * l.length + 4061 := ⟨_, rfl⟩
    refine ⟨K + 1, ?_⟩
    have hm : (l.map cvBed).length = l.length := List.length_map ..
    obtain ⟨r, h1, h2, h3⟩ := seton_eq (l.map cvBed) a b (K + 1) (by omega) (by omega)
    obtain ⟨r', h1', h2', _⟩ := seton_eq (l.map cvBed) a b K (by omega) (by omega)
    have hr : r' = r := by
      have := spec_SetOn.mono (l.map cvBed) a b K r' h1'
      rw [h1] at this
      exact (Option.some.inj this).symm
    subst hr
    obtain ⟨y, hy, _⟩ := markBedS_eq (l.map cvBed) 1 (by omega) (K + 1) (by omega) (by omega)
    obtain ⟨z, hz1, hz2, _⟩ := markIntS_eq r' 1 (by omega) K (by omega) (by omega)
    have n1 : ((1 : Int) + (r'.length : Int) < 0) = False := eq_false (by omega)
    have n2 : ((1 : Int) + 2 * ((l.map cvBed).length : Int) < 0) = False := eq_false (by omega)
    have n3 : ((1048576 : Int) - (l.length : Int) < 0) = False := eq_false (by omega)
    have a1 := toBedS_eq l (K + 1) hb (by omega)
    have a2 := toBedS_eq l K hb (by omega)
    have a3 := eqIntS_refl r' (K + 1) (by omega) (by omega)
    have a4 := eqIntS_refl r' K (by omega) (by omega)
    have a5 := eqBedS_refl (l.map cvBed) (K + 1) (by omega) (by omega)
    simp only [laws_FnExactSetOn.f, szBedS_ok l hb, Option.bind_some, n1, n2, n3, a1, a2, a3, a4, a5, h1, h2, h2', hy, hz1, hz2, if_true, if_false, laws_FnExactSetOn.j0, Bool.not_true, Bool.false_eq_true]
end Go.Proofs.Ytgepdbkhcdoedaa.Pure
