/- The law FnContracts of the given program is proved: for every input of its types that can be read, the call returns true and leaves its arguments as they were. No further condition. -/
import Derived.Test.YtaahibjpncpdoaaPFnContractsx4
namespace Go.Proofs.Ytaahibjpncpdoaa.Pure
open Go.RowKit Go.Proofs.Ytaahibjpncpdoaa.PFnContracts Go.Proofs.YtaahibjpncpdoaaW.PrintWords Go.Proofs.YtaahibjpncpdoaaW.PrintLast
set_option linter.unusedVariables false
set_option linter.unusedSimpArgs false
theorem wrap_small {n : Int} (h : -9223372036854775808 ≤ n ∧ n ≤ 9223372036854775807) : wrap64 n = n := by
  unfold wrap64
  omega
theorem mx_comm (a b : Int) : mx a b = mx b a := by unfold mx; split <;> split <;> omega

theorem win (a b c : Int) : impl_within.f a b c = some (decide (b ≤ a ∧ a ≤ c)) := by
  unfold impl_within.f
  by_cases h : b ≤ a
  · rw [if_pos h]; simp [h]
  · rw [if_neg h]; simp [h]

theorem and255 (n : Int) : Go.bits .and .i64 n 255 = n % 256 := by
  have h255 : (BitVec.ofInt 64 255).toNat = 2 ^ 8 - 1 := by decide
  have key : (BitVec.ofInt 64 n &&& BitVec.ofInt 64 255).toNat = (n % ((2 ^ 64 : Nat) : Int)).toNat % 2 ^ 8 := by
    rw [BitVec.toNat_and, BitVec.toNat_ofInt, h255, Nat.and_two_pow_sub_one_eq_mod]
  show IntKind.i64.wrap ((BitVec.ofInt 64 n &&& BitVec.ofInt 64 255).toNat : Nat) = n % 256
  rw [key, IntKind.wrap_i64]
  omega
theorem byte_ok (b : List Int) (hb : b.length ≤ 1048576) (i h : Int) (h0 : 0 ≤ i) (h1 : i ≤ b.length) : ∃ x i' h', spec_l01Byte.f b i h = some (x, i', h') ∧ 0 ≤ x ∧ x ≤ 255 ∧ 0 ≤ i' ∧ i' ≤ b.length := by
  unfold spec_l01Byte.f
  by_cases c : i < (b.length : Int)
  · rw [if_pos c, if_pos h0]
    refine ⟨_, _, _, rfl, ?_, ?_, ?_, ?_⟩
    · rw [and255]; omega
    · rw [and255]; omega
    · rw [wrap_small (by omega)]; omega
    · rw [wrap_small (by omega)]; omega
  · rw [if_neg c]
    refine ⟨_, _, _, rfl, ?_, ?_, h0, h1⟩
    · rw [and255]; omega
    · rw [and255]; omega
theorem below_ok (b : List Int) (hb : b.length ≤ 1048576) (i h n : Int) (h0 : 0 ≤ i) (h1 : i ≤ b.length) (hn : 1 ≤ n) (hn2 : n ≤ 256) : ∃ x i' h', spec_l01Below.f b i h n = some (x, i', h') ∧ 0 ≤ x ∧ x < n ∧ 0 ≤ i' ∧ i' ≤ b.length := by
  obtain ⟨x, i', h', e, a1, a2, a3, a4⟩ := byte_ok b hb i h h0 h1
  unfold spec_l01Below.f
  rw [if_neg (by omega), if_pos hn2, e]
  simp only [Option.bind_some]
  rw [if_neg (by omega)]
  refine ⟨_, _, _, rfl, ?_, ?_, a3, a4⟩
  · rw [Int.tmod_eq_emod_of_nonneg a1]; exact Int.emod_nonneg _ (by omega)
  · rw [Int.tmod_eq_emod_of_nonneg a1]; exact Int.emod_lt_of_pos _ (by omega)

theorem new_ok (b : List Int) (hb : b.length ≤ 1048576) : ∀ (d k i : Nat) (h : Int), i + d = b.length → d < k → ∃ h', spec_l01New.l0 k b h (i : Int) = some (b, 0, h')
  | d, 0, i, h, _, hk => by omega
  | 0, k + 1, i, h, e, _ => by
    have c1 : ((i : Int) < (b.length : Int)) = False := eq_false (by omega)
    simp only [spec_l01New.l0, c1, if_false]
    exact ⟨_, rfl⟩
  | d + 1, k + 1, i, h, e, hk => by
    have c1 : ((i : Int) < (b.length : Int)) = True := eq_true (by omega)
    have c2 : ((0 : Int) ≤ (i : Int)) = True := eq_true (by omega)
    have c4 : wrap64 ((i : Int) + 1) = ((i + 1 : Nat) : Int) := wrap_small (n := (i : Int) + 1) (by omega)
    simp only [spec_l01New.l0, c1, c2, c4, if_true]
    split
    · exact new_ok b hb d k (i + 1) _ (by omega) (by omega)
    · exact ⟨_, rfl⟩
theorem cur_new (b : List Int) (hb : b.length ≤ 1048576) (k : Nat) (hk : b.length < k) : ∃ h', spec_l01New.f k b = some (b, 0, h') := by
  unfold spec_l01New.f
  exact new_ok b hb b.length k 0 _ (by omega) hk
theorem curnew_stop (b : List Int) (k : Nat) (hb : b.length ≤ 1048576) (hk : 1048576 < k) : ∃ h', spec_l01New.f k b = some (b, 0, h') := cur_new b hb k (by omega)

theorem at_ok (b : List Int) (hb : b.length ≤ 1048576) (hw : ∀ x ∈ b, (Lit.int .u8 x).wf = true) (i : Int) (h0 : 0 ≤ i) (h1 : i ≤ 1000) : ∃ x, laws_at.f b i = some x ∧ 0 ≤ x ∧ x ≤ 255 := by
  unfold laws_at.f
  by_cases c : (b.length : Int) = 0
  · rw [if_pos c]; exact ⟨0, rfl, by omega, by omega⟩
  · rw [if_neg c, wrap_small (n := i * 5) (by omega), wrap_small (n := i * 5 + 1) (by omega)]
    have e : Int.tmod (i * 5 + 1) (b.length : Int) = (i * 5 + 1) % (b.length : Int) := Int.tmod_eq_emod_of_nonneg (by omega)
    rw [e]
    have e0 := Int.emod_nonneg (i * 5 + 1) c
    have e1 := Int.emod_lt_of_pos (i * 5 + 1) (show (0 : Int) < (b.length : Int) by omega)
    rw [if_pos e0, if_pos e1]
    have hx : ((i * 5 + 1) % (b.length : Int)).toNat < b.length := by omega
    have hm : rd b ((i * 5 + 1) % (b.length : Int)) ∈ b := by
      unfold rd
      rw [List.getD_eq_getElem?_getD, List.getElem?_eq_getElem hx]
      exact List.getElem_mem hx
    have hwf := hw _ hm
    have hb2 : 0 ≤ rd b ((i * 5 + 1) % (b.length : Int)) ∧ rd b ((i * 5 + 1) % (b.length : Int)) ≤ 255 := by
      simp only [Lit.wf, Bool.and_eq_true, decide_eq_true_eq] at hwf
      exact hwf
    rw [wrap_small (by omega)]
    exact ⟨_, rfl, hb2.1, hb2.2⟩

/-- Is stage i in order? -/
def stB (l : List S72) (i : Nat) : Bool :=
  decide (1 ≤ (rd_T72 l i).f0 ∧ (rd_T72 l i).f0 ≤ 2000) && (decide (0 ≤ (rd_T72 l i).f1 ∧ (rd_T72 l i).f1 ≤ 10000) && (decide (0 ≤ (rd_T72 l i).f2 ∧ (rd_T72 l i).f2 ≤ 2000) &&
    decide (i = 0 ∨ (rd_T72 l i).f2 = 0 ∨ ((rd_T72 l ((i - 1 : Nat) : Int)).f2 ≠ 0 ∧ (rd_T72 l ((i - 1 : Nat) : Int)).f2 ≤ (rd_T72 l i).f2))))
def okFrom (l : List S72) : Nat → Nat → Bool
  | 0, _ => true
  | d + 1, i => stB l i && okFrom l d (i + 1)
theorem impl_stages_loop (l : List S72) (hl : l.length ≤ 12) : ∀ (d k i : Nat), i + d = l.length → 2 * d < k → impl_stagesOk.l0 k l l (l.length : Int) (i : Int) = some (okFrom l d i)
  | d, 0, i, _, hk => by omega
  | 0, k + 1, i, h, _ => by
    simp only [impl_stagesOk.l0]
    rw [if_neg (by omega)]
    simp [okFrom]
  | d + 1, 1, i, _, hk => by omega
  | d + 1, k + 2, i, h, hk => by
    have ih := impl_stages_loop l hl d k (i + 1) (by omega) (by omega)
    have hi1 : wrap64 ((i : Int) + 1) = ((i + 1 : Nat) : Int) := by rw [wrap_small (by omega)]; rfl
    simp only [impl_stagesOk.l0]
    rw [if_pos (by omega), if_pos (by omega), if_pos (by omega), win, okFrom, stB]
    simp only [Option.bind_some]
    by_cases h1 : 1 ≤ (rd_T72 l i).f0 ∧ (rd_T72 l i).f0 ≤ 2000
    · rw [decide_eq_true h1, if_pos rfl, win]
      simp only [Option.bind_some]
      by_cases h2 : 0 ≤ (rd_T72 l i).f1 ∧ (rd_T72 l i).f1 ≤ 10000
      · rw [decide_eq_true h2, if_pos rfl, win]
        simp only [Option.bind_some, impl_stagesOk.j1]
        by_cases h3 : 0 ≤ (rd_T72 l i).f2 ∧ (rd_T72 l i).f2 ≤ 2000
        · rw [decide_eq_true h3, if_neg (by simp)]
          by_cases h4 : i = 0
          · rw [if_neg (by omega), hi1, ih]
            simp [h4]
          · rw [if_pos (by omega)]
            by_cases h5 : (rd_T72 l i).f2 = 0
            · rw [if_pos h5, hi1, ih]
              simp [h5]
            · rw [if_neg h5, show wrap64 ((i : Int) - 1) = ((i - 1 : Nat) : Int) by rw [wrap_small (by omega)]; omega, if_pos (by omega), if_pos (by omega)]
              by_cases h6 : (rd_T72 l ((i - 1 : Nat) : Int)).f2 = 0
              · rw [if_pos h6]; simp [h4, h5, h6]
              · rw [if_neg h6]
                by_cases h7 : (rd_T72 l i).f2 < (rd_T72 l ((i - 1 : Nat) : Int)).f2
                · rw [if_pos h7]; simp [h4, h5, h6]; intro hh; omega
                · rw [if_neg h7, hi1, ih]
                  have h8 : (rd_T72 l ((i - 1 : Nat) : Int)).f2 ≤ (rd_T72 l i).f2 := by omega
                  rw [decide_eq_true (show i = 0 ∨ (rd_T72 l i).f2 = 0 ∨ ((rd_T72 l ((i - 1 : Nat) : Int)).f2 ≠ 0 ∧ (rd_T72 l ((i - 1 : Nat) : Int)).f2 ≤ (rd_T72 l i).f2) from .inr (.inr ⟨h6, h8⟩))]
                  simp
        · rw [decide_eq_false h3, if_pos (by simp)]; simp
      · rw [decide_eq_false h2, if_neg (by simp)]
        simp [impl_stagesOk.j1]
    · rw [decide_eq_false h1, if_neg (by simp)]
      simp [impl_stagesOk.j1]
def stagesB (l : List S72) : Bool := okFrom l l.length 0 && decide ((l.length : Int) ≤ 12)
theorem impl_stages (l : List S72) (k : Nat) (hk : 24 < k) : impl_StagesOk.f k l = some (stagesB l) := by
  unfold impl_StagesOk.f impl_stagesOk.f stagesB
  by_cases h : (l.length : Int) > 12
  · rw [if_pos h, decide_eq_false (by omega)]
    simp
  · rw [if_neg h, decide_eq_true (by omega)]
    have := impl_stages_loop l (by omega) l.length k 0 (by omega) (by omega)
    rw [show ((0 : Nat) : Int) = 0 from rfl] at this
    rw [this]
    simp

theorem stagesB_len (l : List S72) (h : stagesB l = true) : l.length ≤ 12 := by
  unfold stagesB at h
  simp at h
  omega

theorem impl_next (l : List S72) (k : Nat) (hk : 24 < k) : impl_NextStage.f k l = some (if stagesB l = true then IdxStage.f NextStage_1.p l 0 else -1) := by
  unfold impl_NextStage.f
  rw [impl_stages l k hk, Option.bind_some]
  split <;> rfl

def finL (l : List S72) (i : Int) (day : Int) : List S72 := l.set i.toNat ⟨(rd_T72 l i).f0, (rd_T72 l i).f1, day⟩
def finR (l : List S72) (day : Int) : List S72 × Bool :=
  if stagesB l = true then (if IdxStage.f NextStage_1.p l 0 < 0 ∨ day = 0 then (l, false) else if stagesB (finL l (IdxStage.f NextStage_1.p l 0) day) = true then (finL l (IdxStage.f NextStage_1.p l 0) day, true) else (l, false)) else (l, false)
theorem idx_range (p : S72 → Bool) : ∀ (l : List S72) (i : Int), 0 ≤ i → IdxStage.f p l i = -1 ∨ i ≤ IdxStage.f p l i ∧ IdxStage.f p l i < i + l.length
  | [], i, _ => .inl rfl
  | x :: r, i, h => by
    rw [IdxStage.f]
    split
    · right; simp; omega
    · rcases idx_range p r (i + 1) (by omega) with h1 | h1
      · exact .inl h1
      · right; simp; omega
theorem finL_len (l : List S72) (i day : Int) : (finL l i day).length = l.length := by unfold finL; simp
theorem finR_len (l : List S72) (day : Int) : (finR l day).1.length = l.length := by
  unfold finR
  repeat' split
  all_goals first | rfl | exact finL_len _ _ _
theorem impl_finish (l : List S72) (day : Int) (k : Nat) (hl : l.length ≤ 1048576) (hk : 40 < k) : impl_FinishStage.f k l day = some (finR l day) := by
  obtain ⟨k, rfl⟩ : ∃ m, k = m + 1 := ⟨k - 1, by omega⟩
  have c0 : ∀ x : List S72, x.length ≤ 1048576 → impl_Stage_70.f x = some x := fun x hx => by unfold impl_Stage_70.f; rw [if_pos (by omega)]
  simp only [impl_FinishStage.f, Option.bind_some, impl_next l (k + 1) (by omega), impl_FinishStage.j0, c0 l hl]
  unfold finR
  by_cases hB : stagesB l = true
  · simp only [hB, if_true]
    have hr := idx_range NextStage_1.p l 0 (by omega)
    generalize hi : IdxStage.f NextStage_1.p l 0 = ix at hr ⊢
    by_cases hn : ix < 0
    · simp [hn]
    · have c2 : (0 ≤ ix) = True := eq_true (by omega)
      have c3 : (ix < (l.length : Int)) = True := eq_true (by omega)
      have c4 := impl_stages (finL l ix day) k (by omega)
      unfold finL at c4 ⊢
      by_cases hd : day = 0
      · simp [hn, hd]
      · have c5 : (day == 0) = false := by simpa using hd
        simp only [hn, hd, c5, c2, c3, c4, if_false, if_true, or_self, Bool.false_eq_true, false_or, Option.bind_some]
        split
        · rfl
        · rfl
  · simp [hB]

/-- What a drawn list of stages is: the first d are done. -/
def Good (M : Int) (l : List S72) (d : Nat) : Prop :=
  d ≤ l.length ∧ ∀ i : Nat, i < l.length → (1 ≤ (rd_T72 l i).f0 ∧ (rd_T72 l i).f0 ≤ 80) ∧ (0 ≤ (rd_T72 l i).f1 ∧ (rd_T72 l i).f1 ≤ 200) ∧
    (i < d → 1 ≤ (rd_T72 l i).f2 ∧ (rd_T72 l i).f2 ≤ M) ∧ (d ≤ i → (rd_T72 l i).f2 = 0) ∧ (∀ j, j < i → i < d → (rd_T72 l j).f2 ≤ (rd_T72 l i).f2)
theorem rd_app (l : List S72) (x : S72) (i : Nat) (h : i < l.length) : rd_T72 (l ++ [x]) (i : Int) = rd_T72 l (i : Int) := by
  unfold rd_T72
  rw [List.getD_eq_getElem?_getD, List.getD_eq_getElem?_getD, List.getElem?_append_left (by omega)]
theorem rd_last (l : List S72) (x : S72) (i : Nat) (h : i = l.length) : rd_T72 (l ++ [x]) (i : Int) = x := by
  subst h
  unfold rd_T72
  rw [List.getD_eq_getElem?_getD, List.getElem?_append_right (by omega)]
  simp
theorem rd_set (l : List S72) (x : S72) (i j : Nat) (h : j < l.length) : rd_T72 (l.set j x) (i : Int) = if i = j then x else rd_T72 l (i : Int) := by
  unfold rd_T72
  rw [List.getD_eq_getElem?_getD, List.getD_eq_getElem?_getD, List.getElem?_set]
  by_cases c : i = j
  · subst c; simp [h]
  · rw [if_neg (show ¬ j = (i : Int).toNat by omega), if_neg c]
theorem good_app (l : List S72) (x : S72) (i d : Nat) (hl : l.length = i) (hg : Good 100 l (min i d)) (x0 : 1 ≤ x.f0 ∧ x.f0 ≤ 80) (x1 : 0 ≤ x.f1 ∧ x.f1 ≤ 200) (x2 : i < d → 1 ≤ x.f2 ∧ x.f2 ≤ 100) (x3 : d ≤ i → x.f2 = 0)
    (x4 : i < d → ∀ j : Nat, j < l.length → (rd_T72 l j).f2 ≤ x.f2) : Good 100 (l ++ [x]) (min (i + 1) d) := by
  subst hl
  refine ⟨by simp; omega, fun j hj => ?_⟩
  rw [List.length_append, List.length_singleton] at hj
  by_cases cj : j = l.length
  · rw [rd_last _ _ _ cj]
    refine ⟨x0, x1, fun hh => x2 (by omega), fun hh => x3 (by omega), fun j2 hj2 hh => ?_⟩
    rw [rd_app _ _ _ (by omega)]
    exact x4 (by omega) j2 (by omega)
  · rw [rd_app _ _ _ (by omega)]
    obtain ⟨g1, g2, g3, g4, g5⟩ := hg.2 j (by omega)
    refine ⟨g1, g2, fun hh => g3 (by omega), fun hh => g4 (by omega), fun j2 hj2 hh => ?_⟩
    rw [rd_app _ _ _ (by omega)]
    exact g5 j2 hj2 (by omega)
theorem le_app (l : List S72) (x : S72) (a b : Int) (hm : ∀ j : Nat, j < l.length → (rd_T72 l j).f2 ≤ a) (h1 : a ≤ b) (h2 : x.f2 ≤ b) : ∀ j : Nat, j < (l ++ [x]).length → (rd_T72 (l ++ [x]) j).f2 ≤ b := by
  intro j hj
  rw [List.length_append, List.length_singleton] at hj
  by_cases cj : j = l.length
  · rw [rd_last _ _ _ cj]; exact h2
  · rw [rd_app _ _ _ (by omega)]; exact Int.le_trans (hm j (by omega)) h1
def DrawPost (b : List Int) (n d k i : Nat) (l : List S72) (day c h : Int) : Prop :=
  ∃ l' c' h', spec_l35List.l0 k l (n : Int) (d : Int) day (i : Int) b c h = some (l', c', h') ∧ l'.length = n ∧ Good 100 l' d
theorem draw_loop (b : List Int) (hb : b.length ≤ 1048576) (n d : Nat) (hn : n ≤ 5) (hd : d ≤ n) : ∀ (p k i : Nat) (l : List S72) (day c h : Int), i + p = n → p < k → l.length = i →
    0 ≤ day → day ≤ 16 * i → Good 100 l (min i d) → (∀ j : Nat, j < l.length → (rd_T72 l j).f2 ≤ day) → 0 ≤ c → c ≤ b.length → DrawPost b n d k i l day c h := by
  intro p
  induction p with
  | zero =>
    intro k i l day c h e hk hl _ _ hg _ _ _
    obtain ⟨k, rfl⟩ : ∃ m, k = m + 1 := ⟨k - 1, by omega⟩
    unfold DrawPost
    simp only [spec_l35List.l0]
    rw [if_neg (by omega)]
    refine ⟨_, _, _, rfl, by omega, ?_⟩
    rw [show min i d = d by omega] at hg
    exact hg
  | succ p ih =>
    intro k i l day c h e hk hl d0 d1 hg hm c0 c1
    obtain ⟨k, rfl⟩ : ∃ m, k = m + 1 := ⟨k - 1, by omega⟩
    have w1 : wrap64 ((i : Int) + 1) = ((i + 1 : Nat) : Int) := wrap_small (n := (i : Int) + 1) (by omega)
    have w2 : wrap64 (day + 1) = day + 1 := wrap_small (by omega)
    have w4 : wrap64 (10 * (i : Int)) = 10 * (i : Int) := wrap_small (by omega)
    have w5 : wrap64 (1 + 10 * (i : Int)) = 1 + 10 * (i : Int) := wrap_small (by omega)
    have q1 : ((i : Int) < (n : Int)) = True := eq_true (by omega)
    have q2 : (l.length < 5864062014805) = True := eq_true (by omega)
    obtain ⟨x, i1, h1, e1, x0, x1, a1, b1⟩ := below_ok b hb c h 20 c0 c1 (by omega) (by omega)
    have w6 : wrap64 (1 + 10 * (i : Int) + x) = 1 + 10 * (i : Int) + x := wrap_small (by omega)
    have wx : 1 ≤ 1 + 10 * (i : Int) + x ∧ 1 + 10 * (i : Int) + x ≤ 80 := by omega
    obtain ⟨y, i2, h2, e2, y0, y1, a2, b2⟩ := below_ok b hb i1 h1 200 a1 b1 (by omega) (by omega)
    have wy : 0 ≤ y ∧ y ≤ 200 := by omega
    obtain ⟨z, i3, h3, e3, z0, z1, a3, b3⟩ := below_ok b hb i2 h2 15 a2 b2 (by omega) (by omega)
    have w3 : wrap64 (day + 1 + z) = day + 1 + z := wrap_small (by omega)
    have wz : 1 ≤ day + 1 + z ∧ day + 1 + z ≤ 100 ∧ day + 1 + z ≤ 16 * ((i + 1 : Nat) : Int) := by omega
    have wd : day ≤ 16 * ((i + 1 : Nat) : Int) := by omega
    have wl : ∀ s, (l ++ [s]).length = i + 1 := fun s => by rw [List.length_append, hl]; rfl
    have he : i + 1 + p = n := by omega
    have hk' : p < k := by omega
    have p1 := ih k (i + 1) (l ++ [⟨1 + 10 * (i : Int) + x, y, day + 1 + z⟩]) (day + 1 + z) i3 h3 he hk' (wl _) (Int.le_trans (by decide) wz.1) wz.2.2
    have p2 := ih k (i + 1) (l ++ [⟨1 + 10 * (i : Int) + x, y, 0⟩]) day i2 h2 he hk' (wl _) d0 wd
    unfold DrawPost at p1 p2 ⊢
    simp only [spec_l35List.l0, q1, if_true, e1, e2, Option.bind_some, w1, w2, w4, w5, w6, q2]
    have hdz : day ≤ day + 1 + z := by omega
    clear x1 y1 z1 b1 e1 e2 w1 w2 w4 w5 w6 q1 q2 wd wl hk he d1
    by_cases c : (i : Int) < (d : Int)
    · rw [if_pos c, e3, Option.bind_some]
      simp only [w3]
      exact p1 (good_app l _ i d hl hg wx wy (fun _ => ⟨wz.1, wz.2.1⟩) (fun hh => absurd hh (by omega)) fun _ j hj => Int.le_trans (hm j hj) hdz) (le_app l _ day _ hm hdz (Int.le_refl _)) a3 b3
    · rw [if_neg c]
      exact p2 (good_app l _ i d hl hg wx wy (fun hh => absurd hh (by omega)) (fun _ => rfl) fun hh => absurd hh (by omega)) (le_app l _ day _ hm (Int.le_refl _) d0) a2 b2
theorem draw_ok (b : List Int) (hb : b.length ≤ 1048576) (k : Nat) (hk : b.length + 10 < k) : ∃ l d, spec_DrawStages.f k b = some l ∧ l.length ≤ 5 ∧ Good 100 l d := by
  obtain ⟨h0, e0⟩ := cur_new b hb k (by omega)
  obtain ⟨n, i1, h1, e1, n0, n1, a1, b1⟩ := below_ok b hb 0 h0 6 (by omega) (by omega) (by omega) (by omega)
  obtain ⟨d, i2, h2, e2, d0, d1, a2, b2⟩ := below_ok b hb i1 h1 (n + 1) a1 b1 (by omega) (by omega)
  obtain ⟨n, rfl⟩ : ∃ m : Nat, n = m := ⟨n.toNat, by omega⟩
  obtain ⟨d, rfl⟩ : ∃ m : Nat, d = m := ⟨d.toNat, by omega⟩
  obtain ⟨l, c', h', e3, hl, hg⟩ := draw_loop b hb n d (by omega) (by omega) n k 0 [] 0 i2 h2 (by omega) (by omega) rfl (by omega) (by omega)
    ⟨by simp, fun i hi => by simp at hi⟩ (fun j hj => by simp at hj) a2 b2
  refine ⟨l, d, ?_, by omega, hg⟩
  have w1 : wrap64 ((n : Int) + 1) = (n : Int) + 1 := wrap_small (by omega)
  have e5 : spec_l35List.f k b 0 h0 = some (l, c', h') := by
    unfold spec_l35List.f
    rw [e1, Option.bind_some]
    dsimp only
    rw [w1, e2, Option.bind_some]
    exact e3
  unfold spec_DrawStages.f
  rw [e0, Option.bind_some]
  dsimp only
  rw [e5, Option.bind_some]
theorem okFrom_all (l : List S72) : ∀ (d i : Nat), i + d = l.length → (∀ j, j < l.length → stB l j = true) → okFrom l d i = true
  | 0, _, _, _ => rfl
  | d + 1, i, h, ha => by rw [okFrom, ha i (by omega), okFrom_all l d (i + 1) (by omega) ha]; rfl
theorem good_ok (M : Int) (hM : M ≤ 200) (l : List S72) (d : Nat) (hl : l.length ≤ 5) (h : Good M l d) : stagesB l = true := by
  unfold stagesB
  rw [okFrom_all l l.length 0 (by omega) fun j hj => ?_, decide_eq_true (by omega)]
  · rfl
  · obtain ⟨g1, g2, g3, g4, g5⟩ := h.2 j hj
    by_cases c : j < d
    · have g6 := g3 c
      by_cases c0 : j = 0
      · unfold stB
        rw [decide_eq_true (by omega), decide_eq_true (by omega), decide_eq_true (by omega), decide_eq_true (.inl c0)]; rfl
      · have g7 := g5 (j - 1) (by omega) c
        have g8 := (h.2 (j - 1) (by omega)).2.2.1 (by omega)
        unfold stB
        rw [decide_eq_true (by omega), decide_eq_true (by omega), decide_eq_true (by omega), decide_eq_true (.inr (.inr ⟨by omega, g7⟩))]; rfl
    · have g6 := g4 (by omega)
      unfold stB
      rw [decide_eq_true (by omega), decide_eq_true (by omega), decide_eq_true (by omega), decide_eq_true (.inr (.inl g6))]; rfl
theorem good_next (M : Int) (l : List S72) (d : Nat) (h : Good M l d) : ∀ (p i : Nat), i + p = l.length → i ≤ d → IdxStage.f NextStage_1.p (l.drop i) (i : Int) = if d < l.length then (d : Int) else -1
  | 0, i, e, c => by
    have := h.1
    rw [IdxStage.done _ l i (by omega), if_neg (by omega)]
  | p + 1, i, e, c => by
    obtain ⟨g1, g2, g3, g4, g5⟩ := h.2 i (by omega)
    by_cases ci : i = d
    · have g6 := g4 (by omega)
      rw [IdxStage.here _ l i (by omega) (by simp [NextStage_1.p, g6]), if_pos (by omega), ci]
    · have g6 := g3 (by omega)
      rw [IdxStage.next _ l i (by omega) (by simp [NextStage_1.p]; omega)]
      exact good_next M l d h p (i + 1) (by omega) (by omega)
/-- What one stage earns. -/
def tm (l : List S72) (day fine : Int) (i : Nat) : Int :=
  if 1 ≤ (rd_T72 l i).f2 ∧ (rd_T72 l i).f2 ≤ day then mx ((rd_T72 l i).f1 - fine * mx ((rd_T72 l i).f2 - (rd_T72 l i).f0) 0) 0 else 0
def er (l : List S72) (day fine : Int) : Nat → Nat → Int
  | 0, _ => 0
  | d + 1, i => tm l day fine i + er l day fine d (i + 1)
theorem mx_le (a b c : Int) (h1 : a ≤ c) (h2 : b ≤ c) : mx a b ≤ c := by unfold mx; split <;> assumption
theorem le_mx (a b : Int) : b ≤ mx a b ∧ a ≤ mx a b := by unfold mx; split <;> omega
theorem fine_mul (fine x : Int) (h0 : 0 ≤ fine) (h1 : fine ≤ 1000) (x0 : 0 ≤ x) (x1 : x ≤ 1000) : 0 ≤ fine * x ∧ fine * x ≤ 1000000 := by
  constructor
  · exact Int.mul_nonneg h0 x0
  · calc fine * x ≤ 1000 * x := Int.mul_le_mul_of_nonneg_right h1 x0
      _ ≤ 1000 * 1000 := Int.mul_le_mul_of_nonneg_left x1 (by omega)
/-- Stages whose numbers are small. -/
def Small (l : List S72) : Prop := l.length ≤ 5 ∧ ∀ i : Nat, i < l.length → (1 ≤ (rd_T72 l i).f0 ∧ (rd_T72 l i).f0 ≤ 80) ∧ (0 ≤ (rd_T72 l i).f1 ∧ (rd_T72 l i).f1 ≤ 200) ∧ (0 ≤ (rd_T72 l i).f2 ∧ (rd_T72 l i).f2 ≤ 200)
theorem tm_small (l : List S72) (h : Small l) (day fine : Int) (f0 : 0 ≤ fine) (f1 : fine ≤ 1000) (i : Nat) (hi : i < l.length) : 0 ≤ tm l day fine i ∧ tm l day fine i ≤ (rd_T72 l i).f1 := by
  obtain ⟨g1, g2, g3⟩ := h.2 i hi
  unfold tm
  split
  · have m1 := le_mx ((rd_T72 l i).f2 - (rd_T72 l i).f0) 0
    have m2 := mx_le ((rd_T72 l i).f2 - (rd_T72 l i).f0) 0 1000 (by omega) (by omega)
    have m3 := fine_mul fine _ f0 f1 m1.1 m2
    exact ⟨(le_mx _ _).1, mx_le _ _ _ (by omega) g2.1⟩
  · omega
theorem earn_loop (l : List S72) (h : Small l) (day fine : Int) (f0 : 0 ≤ fine) (f1 : fine ≤ 1000) : ∀ (d k i : Nat) (n : Int), i + d = l.length → d < k → 0 ≤ n → n ≤ 200 * i → impl_EarnedBy.l0 k day fine n l (l.length : Int) (i : Int) = some (n + er l day fine d i)
  | d, 0, i, n, _, hk, _, _ => by omega
  | 0, k + 1, i, n, e, _, _, _ => by
    simp only [impl_EarnedBy.l0]
    rw [if_neg (by omega)]
    simp [er]
  | d + 1, k + 1, i, n, e, hk, n0, n1 => by
    have hl := h.1
    obtain ⟨g1, g2, g3⟩ := h.2 i (by omega)
    have ht := tm_small l h day fine f0 f1 i (by omega)
    simp only [impl_EarnedBy.l0]
    rw [if_pos (by omega), if_pos (by omega), if_pos (by omega), win, Option.bind_some, wrap_small (n := (i : Int) + 1) (by omega), er]
    by_cases c : 1 ≤ (rd_T72 l i).f2 ∧ (rd_T72 l i).f2 ≤ day
    · have m1 := le_mx ((rd_T72 l i).f2 - (rd_T72 l i).f0) 0
      have m2 := mx_le ((rd_T72 l i).f2 - (rd_T72 l i).f0) 0 1000 (by omega) (by omega)
      have m3 := fine_mul fine _ f0 f1 m1.1 m2
      rw [decide_eq_true c, if_pos rfl, wrap_small (n := (rd_T72 l i).f2 - (rd_T72 l i).f0) (by omega), wrap_small (n := fine * _) (by omega), wrap_small (n := (rd_T72 l i).f1 - _) (by omega)]
      have e2 : mx ((rd_T72 l i).f1 - fine * mx ((rd_T72 l i).f2 - (rd_T72 l i).f0) 0) 0 = tm l day fine i := by unfold tm; rw [if_pos c]
      rw [e2, wrap_small (n := n + _) (by omega)]
      have := earn_loop l h day fine f0 f1 d k (i + 1) (n + tm l day fine i) (by omega) (by omega) (by omega) (by omega)
      rw [show (i : Int) + 1 = ((i + 1 : Nat) : Int) by omega, this]
      congr 1; omega
    · rw [decide_eq_false c, if_neg (by simp)]
      have e2 : tm l day fine i = 0 := by unfold tm; rw [if_neg c]
      have := earn_loop l h day fine f0 f1 d k (i + 1) n (by omega) (by omega) (by omega) (by omega)
      rw [show (i : Int) + 1 = ((i + 1 : Nat) : Int) by omega, this, e2]
      congr 1; omega
theorem earn_eq (l : List S72) (h : Small l) (hB : stagesB l = true) (day fine : Int) (d0 : 0 ≤ day) (d1 : day ≤ 2000) (f0 : 0 ≤ fine) (f1 : fine ≤ 1000) (k : Nat) (hk : 30 < k) : impl_EarnedBy.f k l day fine = some (er l day fine l.length 0) := by
  obtain ⟨k, rfl⟩ : ∃ m, k = m + 1 := ⟨k - 1, by omega⟩
  have hl := h.1
  have e := earn_loop l h day fine f0 f1 l.length k 0 0 (by omega) (by omega) (by omega) (by omega)
  rw [show ((0 : Nat) : Int) = 0 from rfl] at e
  simp only [impl_EarnedBy.f, impl_stages l (k + 1) (by omega), hB, Option.bind_some, if_true, win, decide_eq_true (show 0 ≤ day ∧ day ≤ 2000 from ⟨d0, d1⟩), decide_eq_true (show 0 ≤ fine ∧ fine ≤ 1000 from ⟨f0, f1⟩), impl_EarnedBy.j0, Bool.not_true, Bool.false_eq_true, if_false, e]
  simp
theorem er_congr (l m : List S72) (a b f g : Int) : ∀ (d i : Nat), i + d = l.length → (∀ j : Nat, i ≤ j → j < l.length → tm l a f j = tm m b g j) → er l a f d i = er m b g d i
  | 0, _, _, _ => rfl
  | d + 1, i, e, h => by rw [er, er, h i (by omega) (by omega), er_congr l m a b f g d (i + 1) (by omega) fun j h1 h2 => h j (by omega) h2]
theorem er_zero (l : List S72) (a f : Int) : ∀ (d i : Nat), i + d = l.length → (∀ j : Nat, j < l.length → tm l a f j = 0) → er l a f d i = 0
  | 0, _, _, _ => rfl
  | d + 1, i, e, h => by rw [er, h i (by omega), er_zero l a f d (i + 1) (by omega) h]; rfl
theorem er_le (l : List S72) (a f b g : Int) : ∀ (d i : Nat), i + d = l.length → (∀ j : Nat, j < l.length → tm l a f j ≤ tm l b g j) → er l a f d i ≤ er l b g d i
  | 0, _, _, _ => Int.le_refl _
  | d + 1, i, e, h => by rw [er, er]; have := h i (by omega); have := er_le l a f b g d (i + 1) (by omega) h; omega
theorem er_one (l m : List S72) (a f : Int) (p : Nat) (hm : m.length = l.length) (hp : p < l.length) (ho : ∀ j : Nat, j < l.length → j ≠ p → tm m a f j = tm l a f j) (hz : tm l a f p = 0) : ∀ (d i : Nat), i + d = l.length → er m a f d i = er l a f d i + if i ≤ p then tm m a f p else 0
  | 0, i, e => by rw [er, er, if_neg (by omega)]; rfl
  | d + 1, i, e => by
    rw [er, er, er_one l m a f p hm hp ho hz d (i + 1) (by omega)]
    by_cases c : i = p
    · subst c; rw [hz, if_neg (by omega), if_pos (by omega)]; omega
    · rw [ho i (by omega) c]
      by_cases c2 : i ≤ p
      · rw [if_pos (by omega), if_pos c2]; omega
      · rw [if_neg (by omega), if_neg c2]; omega
theorem good_small (M : Int) (hM : M ≤ 200) (l : List S72) (d : Nat) (hl : l.length ≤ 5) (h : Good M l d) : Small l := by
  refine ⟨hl, fun i hi => ?_⟩
  obtain ⟨g1, g2, g3, g4, g5⟩ := h.2 i hi
  refine ⟨g1, g2, ?_⟩
  by_cases c : i < d
  · have := g3 c; omega
  · have := g4 (by omega); omega
def sm (l : List S72) : Nat → Nat → Int
  | 0, _ => 0
  | d + 1, i => (rd_T72 l i).f1 + sm l d (i + 1)
theorem er_sm (l : List S72) (h : Small l) (a f : Int) (f0 : 0 ≤ f) (f1 : f ≤ 1000) : ∀ (d i : Nat), i + d = l.length → 0 ≤ er l a f d i ∧ er l a f d i ≤ sm l d i
  | 0, _, _ => ⟨Int.le_refl _, Int.le_refl _⟩
  | d + 1, i, e => by
    have h1 := tm_small l h a f f0 f1 i (by omega)
    have h2 := er_sm l h a f f0 f1 d (i + 1) (by omega)
    rw [er, sm]
    omega
theorem head_loop (l : List S72) (h : Small l) (h100 : ∀ i : Nat, i < l.length → (rd_T72 l i).f2 ≤ 100) (fine nx : Int) (k : Nat) : ∀ (p i : Nat) (day money : Int), i + p = l.length → 0 ≤ day → day ≤ 100 → (∀ j : Nat, j < i → (rd_T72 l j).f2 ≤ day) → 0 ≤ money → money ≤ 200 * i →
    ∃ day', 0 ≤ day' ∧ day' ≤ 100 ∧ (∀ j : Nat, j < l.length → (rd_T72 l j).f2 ≤ day') ∧ laws_FnContracts.l0 (k + p) l fine nx day money (i : Int) = laws_FnContracts.l0 k l fine nx day' (money + sm l p i) (l.length : Int)
  | 0, i, day, money, e, d0, d1, hd, _, _ => by
    refine ⟨day, d0, d1, fun j hj => hd j (by omega), ?_⟩
    rw [sm, show (i : Int) = (l.length : Int) by omega]
    simp
  | p + 1, i, day, money, e, d0, d1, hd, m0, m1 => by
    have hl := h.1
    obtain ⟨g1, g2, g3⟩ := h.2 i (by omega)
    have g4 := h100 i (by omega)
    have m3 := le_mx day (rd_T72 l i).f2
    obtain ⟨day', q0, q1, q2, q3⟩ := head_loop l h h100 fine nx k p (i + 1) (mx day (rd_T72 l i).f2) (money + (rd_T72 l i).f1) (by omega) (by omega) (mx_le _ _ _ d1 g4) (fun j hj => by
      by_cases c : j = i
      · rw [c]; exact m3.1
      · have := hd j (by omega); omega) (by omega) (by omega)
    refine ⟨day', q0, q1, q2, ?_⟩
    have c1 : ((i : Int) < (l.length : Int)) = True := eq_true (by omega)
    have c2 : (0 ≤ (i : Int)) = True := eq_true (by omega)
    rw [show k + (p + 1) = (k + p) + 1 by omega]
    simp only [laws_FnContracts.l0, c1, c2, if_true]
    rw [wrap_small (n := money + _) (by omega), wrap_small (n := (i : Int) + 1) (by omega), show (i : Int) + 1 = ((i + 1 : Nat) : Int) by omega, q3, sm]
    congr 1
    omega
/-- Is stage i late? -/
def lateB (l : List S72) (i : Nat) : Bool :=
  decide ((rd_T72 l i).f2 > (rd_T72 l i).f0 ∨ (rd_T72 l i).f2 = 0 ∧ (rd_T72 l i).f0 < 2000)
def lts (l : List S72) : Nat → Nat → List Int
  | 0, _ => []
  | d + 1, i => (if lateB l i = true then [(i : Int)] else []) ++ lts l d (i + 1)
theorem lts_mem (l : List S72) (j : Nat) : ∀ (d i : Nat), ((j : Int) ∈ lts l d i) ↔ (i ≤ j ∧ j < i + d ∧ lateB l j = true)
  | 0, i => by simp [lts]; omega
  | d + 1, i => by
    rw [lts, List.mem_append, lts_mem l j d (i + 1)]
    by_cases c : j = i
    · subst c
      cases h : lateB l j <;> simp
    · have : ((j : Int) ∈ (if lateB l i = true then [(i : Int)] else [])) = False := by
        apply eq_false
        split
        · simp; omega
        · simp
      rw [this, false_or]
      constructor
      · intro h; exact ⟨by omega, by omega, h.2.2⟩
      · intro h; exact ⟨by omega, by omega, h.2.2⟩
theorem late_loop (l : List S72) (hl : l.length ≤ 5) : ∀ (d k i : Nat) (n : List Int), i + d = l.length → n.length ≤ i → d < k → impl_LateStages.l0 k 2000 n l (l.length : Int) (i : Int) = some (n ++ lts l d i)
  | d, 0, i, n, _, _, hk => by omega
  | 0, k + 1, i, n, e, _, _ => by
    simp only [impl_LateStages.l0]
    rw [if_neg (by omega), lts, List.append_nil]
  | d + 1, k + 1, i, n, e, hn, hk => by
    have c1 : ((i : Int) < (l.length : Int)) = True := eq_true (by omega)
    have c2 : ((0 : Int) ≤ (i : Int)) = True := eq_true (by omega)
    have c3 : (n.length < 17592186044416) = True := eq_true (by omega)
    have c4 : wrap64 ((i : Int) + 1) = ((i + 1 : Nat) : Int) := wrap_small (n := (i : Int) + 1) (by omega)
    have y1 := late_loop l hl d k (i + 1) (n ++ [(i : Int)]) (by omega) (by simp; omega) (by omega)
    have y2 := late_loop l hl d k (i + 1) n (by omega) (by omega) (by omega)
    simp only [impl_LateStages.l0, c1, c2, c3, c4, if_true]
    rw [lts]
    by_cases h1 : (rd_T72 l i).f2 > (rd_T72 l i).f0
    · rw [if_pos h1, y1, show lateB l i = true from decide_eq_true (.inl h1)]; simp
    · rw [if_neg h1]
      by_cases h2 : (rd_T72 l i).f2 = 0
      · rw [if_pos h2]
        by_cases h3 : (rd_T72 l i).f0 < 2000
        · rw [if_pos h3, y1, show lateB l i = true from decide_eq_true (.inr ⟨h2, h3⟩)]; simp
        · rw [if_neg h3, y2, show lateB l i = false from decide_eq_false (by omega)]; simp
      · rw [if_neg h2, y2, show lateB l i = false from decide_eq_false (by omega)]; simp
theorem has_loop (x : Int) (xs : List Int) (hx : xs.length ≤ 100) : ∀ (d k i : Nat), i + d = xs.length → d < k → laws_has.l0 k xs x (i : Int) = some (decide (x ∈ xs.drop i))
  | d, 0, i, _, hk => by omega
  | 0, k + 1, i, e, _ => by
    simp only [laws_has.l0]
    rw [if_neg (by omega), List.drop_of_length_le (by omega)]
    simp
  | d + 1, k + 1, i, e, hk => by
    have hi : i < xs.length := by omega
    have c4 : wrap64 ((i : Int) + 1) = ((i + 1 : Nat) : Int) := wrap_small (n := (i : Int) + 1) (by omega)
    have er : rd xs (i : Int) = xs[i] := by unfold rd; simp [hi]
    simp only [laws_has.l0]
    rw [if_pos (by omega), if_pos (by omega), er, List.drop_eq_getElem_cons hi, c4, has_loop x xs hx d k (i + 1) (by omega) (by omega)]
    by_cases c : xs[i] = x
    · rw [if_pos c]; simp [c]
    · have hm : x ∈ xs[i] :: xs.drop (i + 1) ↔ x ∈ xs.drop (i + 1) := by
        rw [List.mem_cons]
        exact ⟨fun h => h.elim (fun h => absurd h.symm c) id, .inr⟩
      rw [if_neg c]
      congr 1
      exact (decide_eq_decide.2 hm).symm
theorem lts_len (l : List S72) : ∀ (d i : Nat), (lts l d i).length ≤ d
  | 0, _ => Nat.le_refl _
  | d + 1, i => by
    have := lts_len l d (i + 1)
    rw [lts, List.length_append]
    split <;> simp <;> omega
theorem has_late (l : List S72) (hl : l.length ≤ 5) (k i : Nat) (hk : 10 < k) (hi : i < l.length) : laws_has.f k (lts l l.length 0) (i : Int) = some (lateB l i) := by
  have h1 := lts_len l l.length 0
  have h2 := has_loop (i : Int) (lts l l.length 0) (by omega) (lts l l.length 0).length k 0 (by omega) (by omega)
  unfold laws_has.f
  rw [show ((0 : Nat) : Int) = 0 from rfl] at h2
  rw [h2, List.drop_zero]
  congr 1
  cases h : lateB l i with
  | true => exact decide_eq_true ((lts_mem l i l.length 0).2 ⟨by omega, by omega, h⟩)
  | false => exact decide_eq_false fun hh => by have := ((lts_mem l i l.length 0).1 hh).2.2; simp [h] at this
theorem tail_loop (l : List S72) (hl : l.length ≤ 5) (fine nx day : Int) (F : List S72) (ok : Bool) (E : Int) (k : Nat) (hk : 10 < k) : ∀ (p i : Nat), i + p = l.length →
    laws_FnContracts.l1 (k + p) l fine nx day F ok E (lts l l.length 0) (i : Int) = laws_FnContracts.l1 k l fine nx day F ok E (lts l l.length 0) (l.length : Int)
  | 0, i, e => by rw [show (i : Int) = (l.length : Int) by omega]; rfl
  | p + 1, i, e => by
    have ih := tail_loop l hl fine nx day F ok E k hk p (i + 1) (by omega)
    have c1 : ((i : Int) < (l.length : Int)) = True := eq_true (by omega)
    have c2 : ((0 : Int) ≤ (i : Int)) = True := eq_true (by omega)
    have c4 : wrap64 ((i : Int) + 1) = ((i + 1 : Nat) : Int) := wrap_small (n := (i : Int) + 1) (by omega)
    rw [show k + (p + 1) = (k + p) + 1 by omega]
    rw [laws_FnContracts.l1]
    simp only [c1, c2, c4, if_true, has_late l hl (k + p) i (by omega) (by omega), Option.bind_some, ih]
    by_cases h1 : (rd_T72 l i).f2 > (rd_T72 l i).f0
    · rw [if_pos h1, show lateB l i = true from decide_eq_true (.inl h1)]; simp
    · rw [if_neg h1]
      by_cases h2 : (rd_T72 l i).f2 = 0
      · rw [if_pos h2, if_neg]
        have : lateB l i = decide ((rd_T72 l i).f0 < 2000) := by unfold lateB; simp [h2]; intro hh; omega
        rw [this]; simp
      · rw [if_neg h2, show lateB l i = false from decide_eq_false (by omega)]; simp
theorem late_f (l : List S72) (hl : l.length ≤ 5) (hB : stagesB l = true) (k : Nat) (hk : 30 < k) : impl_LateStages.f k l 2000 = some (lts l l.length 0) := by
  have h1 := late_loop l hl l.length k 0 [] (by omega) (by simp) (by omega)
  rw [show ((0 : Nat) : Int) = 0 from rfl] at h1
  simp only [impl_LateStages.f, impl_stages l k (by omega), hB, Option.bind_some, if_true, h1, List.nil_append]
theorem next_f (M : Int) (hM : M ≤ 200) (l : List S72) (d : Nat) (hl : l.length ≤ 5) (h : Good M l d) (k : Nat) (hk : 30 < k) : impl_NextStage.f k l = some (if d < l.length then (d : Int) else -1) := by
  have h1 := good_next M l d h l.length 0 (by omega) (by omega)
  rw [List.drop_zero, show ((0 : Nat) : Int) = 0 from rfl] at h1
  rw [impl_next l k (by omega), good_ok M hM l d hl h, if_pos rfl, h1]
theorem fin_good (l : List S72) (d : Nat) (hl : l.length ≤ 5) (h : Good 100 l d) (hd : d < l.length) (day : Int) (d0 : 1 ≤ day) (d1 : day ≤ 101) (hm : ∀ j : Nat, j < l.length → (rd_T72 l j).f2 ≤ day) : Good 101 (finL l d day) (d + 1) := by
  refine ⟨by rw [finL_len]; omega, fun i hi => ?_⟩
  rw [finL_len] at hi
  obtain ⟨g1, g2, g3, g4, g5⟩ := h.2 i hi
  obtain ⟨e1, e2, e3, e4, e5⟩ := h.2 d hd
  have rs := fun i => rd_set l ⟨(rd_T72 l d).f0, (rd_T72 l d).f1, day⟩ i d hd
  unfold finL
  simp only [Int.toNat_natCast, rs]
  by_cases c : i = d
  · subst c
    simp only [if_true]
    refine ⟨e1, e2, fun _ => by omega, fun hh => by omega, fun j hj _ => ?_⟩
    rw [if_neg (by omega)]
    exact hm j (by omega)
  · simp only [if_neg c]
    refine ⟨g1, g2, fun hh => ?_, fun hh => g4 (by omega), fun j hj hh => ?_⟩
    · have := g3 (by omega); omega
    · rw [if_neg (by omega)]; exact g5 j hj (by omega)
set_option maxHeartbeats 4000000 in
theorem FnContracts : laws_FnContracts.Pure := by
  intro l hl hl2 hw
  by_cases hb : (l.length : Int) > 1048576
  · exact ⟨0, by simp [laws_FnContracts.f, laws_big.f, hb]⟩
  have hb' : l.length ≤ 1048576 := by omega
  obtain ⟨K, hK⟩ : ∃ K, K = l.length + 200 := ⟨_, rfl⟩
  obtain ⟨L, d, e1, hlen, hg⟩ := draw_ok l hb' K (by omega)
  obtain ⟨t, t1, t2, t3⟩ := at_ok l hb' hw 0 (by omega) (by omega)
  have ht : Int.tmod t 30 = t % 30 := Int.tmod_eq_emod_of_nonneg t2
  obtain ⟨fine, hf⟩ : ∃ fine, fine = t % 30 := ⟨_, rfl⟩
  have hS := good_small 100 (by omega) L d hlen hg
  have hB := good_ok 100 (by omega) L d hlen hg
  have hN := next_f 100 (by omega) L d hlen hg
  obtain ⟨k3, hk3⟩ : ∃ k3, K = ((((k3 + 1) + 1) + L.length) + 1) + 1 + L.length := ⟨K - L.length - L.length - 4, by omega⟩
  have hk4 : 100 < k3 := by omega
  have h100 : ∀ i : Nat, i < L.length → (rd_T72 L i).f2 ≤ 100 := fun i hi => by
    obtain ⟨g1, g2, g3, g4, g5⟩ := hg.2 i hi
    by_cases c : i < d
    · exact (g3 c).2
    · rw [g4 (by omega)]; omega
  obtain ⟨nx, hnx⟩ : ∃ nx, nx = (if d < L.length then (d : Int) else -1) := ⟨_, rfl⟩
  obtain ⟨day, q0, q1, q2, q3⟩ := head_loop L hS h100 fine nx (((((k3 + 1) + 1) + L.length) + 1) + 1) L.length 0 0 0 (by omega) (by omega) (by omega) (fun j hj => by omega) (by omega) (by omega)
  refine ⟨K, ?_⟩
  rw [show ((0 : Nat) : Int) = 0 from rfl, ← hk3] at q3
  have hb2 : ((l.length : Int) > 1048576) = False := eq_false hb
  simp only [laws_FnContracts.f, laws_big.f, hb2, decide_false, Option.bind_some, e1, t1, ht, ← hf, hN K (by omega), ← hnx, q3, Bool.false_eq_true, if_false]
  obtain ⟨k2, hk2⟩ : ∃ k2, k2 = ((k3 + 1) + 1) + L.length := ⟨_, rfl⟩
  rw [← hk2, laws_FnContracts.l0]
  have c1 : ((L.length : Int) < (L.length : Int)) = False := eq_false (by omega)
  have w1 : wrap64 (day + 1) = day + 1 := wrap_small (by omega)
  have f0 : 0 ≤ fine := by omega
  have f1 : fine ≤ 29 := by omega
  have hE := er_sm L hS 2000 fine f0 (by omega) L.length 0 (by omega)
  have E1 := fun k (hk : 30 < k) => earn_eq L hS hB 2000 fine (by omega) (by omega) f0 (by omega) k hk
  have E2 := fun k (hk : 30 < k) => earn_eq L hS hB day fine (by omega) (by omega) f0 (by omega) k hk
  have E3 := fun k (hk : 30 < k) => earn_eq L hS hB 0 fine (by omega) (by omega) f0 (by omega) k hk
  have E4 := fun k (hk : 30 < k) => earn_eq L hS hB 2000 0 (by omega) (by omega) (by omega) (by omega) k hk
  rw [er_congr L L day 2000 fine fine L.length 0 (by omega) fun j _ hj => by
    unfold tm
    have := q2 j hj
    have g := (hS.2 j hj).2.2
    by_cases c : 1 ≤ (rd_T72 L j).f2
    · rw [if_pos ⟨c, this⟩, if_pos ⟨c, by omega⟩]
    · rw [if_neg (fun h => c h.1), if_neg (fun h => c h.1)]] at E2
  rw [er_zero L 0 fine L.length 0 (by omega) fun j hj => by
    unfold tm; rw [if_neg (by omega)]] at E3
  have hle := er_le L 2000 fine 2000 0 L.length 0 (by omega) fun j hj => by
    have ts := (tm_small L hS 2000 fine f0 (by omega) j hj).2
    by_cases c : 1 ≤ (rd_T72 L j).f2 ∧ (rd_T72 L j).f2 ≤ 2000
    · have : tm L 2000 0 j = mx ((rd_T72 L j).f1 - 0 * mx ((rd_T72 L j).f2 - (rd_T72 L j).f0) 0) 0 := by rw [tm, if_pos c]
      rw [this, Int.zero_mul, Int.sub_zero]
      exact Int.le_trans ts (le_mx _ _).2
    · have h1 : tm L 2000 fine j = 0 := by rw [tm, if_neg c]
      have h2 : tm L 2000 0 j = 0 := by rw [tm, if_neg c]
      omega
  obtain ⟨E, hEE⟩ : ∃ E, E = er L 2000 fine L.length 0 := ⟨_, rfl⟩
  obtain ⟨E0, hEE0⟩ : ∃ E0, E0 = er L 2000 0 L.length 0 := ⟨_, rfl⟩
  rw [← hEE] at hE hle E1 E2
  rw [← hEE0] at hle E4
  have hFin := fun k (hk : 40 < k) => impl_finish L (day + 1) k (by omega) hk
  have c2 : (E < 0) = False := eq_false (by omega)
  have c3 : (E > 0 + sm L L.length 0) = False := eq_false (by omega)
  have c4 : (E0 < E) = False := eq_false (by omega)
  have hFL : (finR L (day + 1)) = if d < L.length then (finL L d (day + 1), true) else (L, false) := by
    unfold finR
    have h1 := good_next 100 L d hg L.length 0 (by omega) (by omega)
    rw [List.drop_zero, show ((0 : Nat) : Int) = 0 from rfl] at h1
    rw [hB, if_pos rfl, h1]
    by_cases c : d < L.length
    · rw [if_pos c, if_pos c, if_neg (by omega), good_ok 101 (by omega) _ (d + 1) (by rw [finL_len]; omega) (fin_good L d hlen hg c (day + 1) (by omega) (by omega) fun j hj => by have := q2 j hj; omega), if_pos rfl]
    · rw [if_neg c, if_neg c, if_pos (by omega)]
  have hok : (finR L (day + 1)).2 = decide (nx ≥ 0) := by
    rw [hFL, hnx]
    split
    · simp
    · simp
  have hbne : ((finR L (day + 1)).2 != (decide (nx ≥ 0))) = false := by rw [hok]; simp
  simp only [c1, if_false, w1, hFin (k2 + 1) (by omega), Option.bind_some, E1 (k2 + 1) (by omega), impl_stages L (k2 + 1) (by omega), hB, if_true, hbne, Bool.false_eq_true, c2, c3, c4, E2 (k2 + 1) (by omega), E3 (k2 + 1) (by omega), E4 (k2 + 1) (by omega), decide_false]
  rw [laws_FnContracts.j1]
  simp only [Bool.false_eq_true, if_false, late_f L hlen hB k2 (by omega), Option.bind_some]
  have htl := tail_loop L hlen fine nx day (finR L (day + 1)).1 (finR L (day + 1)).2 E ((k3 + 1) + 1) (by omega) L.length 0 (by omega)
  rw [show ((0 : Nat) : Int) = 0 from rfl, ← hk2] at htl
  rw [htl, laws_FnContracts.l1]
  simp only [c1, if_false]
  by_cases hd : d < L.length
  · rw [if_pos hd] at hFL hnx
    have hfg := fin_good L d hlen hg hd (day + 1) (by omega) (by omega) fun j hj => by have := q2 j hj; omega
    have hFl : (finL L d (day + 1)).length = L.length := finL_len _ _ _
    have hFB := good_ok 101 (by omega) _ (d + 1) (by rw [finL_len]; omega) hfg
    have hFS := good_small 101 (by omega) _ (d + 1) (by rw [finL_len]; omega) hfg
    have hFN := next_f 101 (by omega) _ (d + 1) (by rw [finL_len]; omega) hfg k3 (by omega)
    have hFE := earn_eq _ hFS hFB 2000 fine (by omega) (by omega) f0 (by omega) k3 (by omega)
    have rs := fun i : Nat => rd_set L ⟨(rd_T72 L d).f0, (rd_T72 L d).f1, day + 1⟩ i d hd
    have rs : ∀ i : Nat, rd_T72 (finL L d (day + 1)) i = if i = d then ⟨(rd_T72 L d).f0, (rd_T72 L d).f1, day + 1⟩ else rd_T72 L i := rs
    have rd0 := rs d
    rw [if_pos rfl] at rd0
    have hz := (hg.2 d hd).2.2.2.1 (by omega)
    have ho := er_one L (finL L d (day + 1)) 2000 fine d hFl hd (fun j hj hjd => by unfold tm; rw [rs j, if_neg hjd]) (by unfold tm; rw [hz, if_neg (by omega)]) L.length 0 (by omega)
    rw [← hEE, if_pos (by omega)] at ho
    rw [hFl, ho] at hFE
    obtain ⟨g1, g2, g3⟩ := hS.2 d hd
    have htm : tm (finL L d (day + 1)) 2000 fine d = mx ((rd_T72 L d).f1 - fine * mx (day + 1 - (rd_T72 L d).f0) 0) 0 := by
      unfold tm; rw [rd0, if_pos ⟨by simp only; omega, by simp only; omega⟩]
    have m1 := le_mx (day + 1 - (rd_T72 L d).f0) 0
    have m2 := mx_le (day + 1 - (rd_T72 L d).f0) 0 1000 (by omega) (by omega)
    have m3 := fine_mul fine _ f0 (by omega) m1.1 m2
    have m4 := le_mx ((rd_T72 L d).f1 - fine * mx (day + 1 - (rd_T72 L d).f0) 0) 0
    have m5 := mx_le ((rd_T72 L d).f1 - fine * mx (day + 1 - (rd_T72 L d).f0) 0) 0 200 (by omega) (by omega)
    have hsm : sm L L.length 0 ≤ 1000 := by
      have hsm : ∀ (p i : Nat), i + p = L.length → sm L p i ≤ 200 * p := by
        intro p
        induction p with
        | zero => intro i _; simp [sm]
        | succ p ih => intro i e; have := ih (i + 1) (by omega); have := (hS.2 i (by omega)).2.1; rw [sm]; omega
      have := hsm L.length 0 (by omega)
      omega
    have d1 : ((d : Int) ≥ (L.length : Int)) = False := eq_false (by omega)
    have d2 : (((finL L d (day + 1)).length : Int) != (L.length : Int)) = false := by rw [hFl]; simp
    have d3 : (0 ≤ (d : Int)) = True := eq_true (by omega)
    have d4 : ((d : Int) < (L.length : Int)) = True := eq_true (by omega)
    have d5 : ((d : Int) < ((finL L d (day + 1)).length : Int)) = True := eq_true (by omega)
    have w2 : wrap64 (day + 1 - (rd_T72 L d).f0) = day + 1 - (rd_T72 L d).f0 := wrap_small (by omega)
    have w3 : wrap64 (fine * mx (day + 1 - (rd_T72 L d).f0) 0) = fine * mx (day + 1 - (rd_T72 L d).f0) 0 := wrap_small (by omega)
    have w4 : wrap64 ((rd_T72 L d).f1 - fine * mx (day + 1 - (rd_T72 L d).f0) 0) = (rd_T72 L d).f1 - fine * mx (day + 1 - (rd_T72 L d).f0) 0 := wrap_small (by omega)
    have w5 : wrap64 (E + mx ((rd_T72 L d).f1 - fine * mx (day + 1 - (rd_T72 L d).f0) 0) 0) = E + mx ((rd_T72 L d).f1 - fine * mx (day + 1 - (rd_T72 L d).f0) 0) 0 := wrap_small (by omega)
    have d6 : ((if d + 1 < L.length then ((d + 1 : Nat) : Int) else -1) != (d : Int)) = true := by
      split
      · rw [bne_iff_ne]; omega
      · rw [bne_iff_ne]; omega
    rw [hFl] at hFN
    simp only [hFL, if_true, d1, if_false, d2, laws_FnContracts.j3, hnx, d3, d4, d5, Bool.false_eq_true, impl_stages (finL L d (day + 1)) k3 (by omega), hFB, Option.bind_some, rd0, w1, hFE, htm, hFN]
    rw [mx_comm 0 (wrap64 _), mx_comm 0 (wrap64 (day + 1 - _)), w2, w3, w4, w5, if_pos rfl, d6]
  · rw [if_neg hd] at hFL hnx
    simp only [hFL, Bool.false_eq_true, if_false]
    by_cases hz : (L.length : Int) = 0
    · rw [if_pos hz]
    · have hle2 := hg.1
      have w2 : wrap64 ((L.length : Int) - 1) = ((L.length - 1 : Nat) : Int) := by rw [wrap_small (by omega)]; omega
      have g := (hg.2 (L.length - 1) (by omega)).2.2.1 (by omega)
      rw [if_neg hz, w2, if_pos (by omega), if_pos (by omega), decide_eq_true (by omega)]
end Go.Proofs.Ytaahibjpncpdoaa.Pure
