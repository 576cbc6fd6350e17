/- The law FnMortar of the given program is proved: for every input of its types that can be read, the call returns true and leaves its arguments as they were. No further condition. -/
import Derived.Test.YtaahibjpncpdoaaPFnMortarx3
namespace Go.Proofs.Ytaahibjpncpdoaa.Pure
open Go.RowKit Go.Proofs.Ytaahibjpncpdoaa.PFnMortar Go.Proofs.YtaahibjpncpdoaaW.PrintWords Go.Proofs.YtaahibjpncpdoaaW.PrintLast
set_option linter.unusedVariables false
set_option linter.unusedSimpArgs false
theorem win (a b c : Int) : impl_within.f a b c = some (decide (b ≤ a ∧ a ≤ c)) := by
  unfold impl_within.f
  by_cases h : b ≤ a
  · rw [if_pos h]; simp [h]
  · rw [if_neg h]; simp [h]

theorem wrap_small {n : Int} (h : -9223372036854775808 ≤ n ∧ n ≤ 9223372036854775807) : wrap64 n = n := by
  unfold wrap64
  omega
theorem and255 (n : Int) : Go.bits .and .i64 n 255 = n % 256 := by
  have h255 : (BitVec.ofInt 64 255).toNat = 2 ^ 8 - 1 := by decide
  have key : (BitVec.ofInt 64 n &&& BitVec.ofInt 64 255).toNat = (n % ((2 ^ 64 : Nat) : Int)).toNat % 2 ^ 8 := by
    rw [BitVec.toNat_and, BitVec.toNat_ofInt, h255, Nat.and_two_pow_sub_one_eq_mod]
  show IntKind.i64.wrap ((BitVec.ofInt 64 n &&& BitVec.ofInt 64 255).toNat : Nat) = n % 256
  rw [key, IntKind.wrap_i64]
  omega
theorem byte_ok (b : List Int) (hb : b.length ≤ 1048576) (i h : Int) (h0 : 0 ≤ i) (h1 : i ≤ b.length) : ∃ x i' h', spec_l01Byte.f b i h = some (x, i', h') ∧ 0 ≤ x ∧ x ≤ 255 ∧ 0 ≤ i' ∧ i' ≤ b.length := by
  unfold spec_l01Byte.f
  by_cases c : i < (b.length : Int)
  · rw [if_pos c, if_pos h0]
    refine ⟨_, _, _, rfl, ?_, ?_, ?_, ?_⟩
    · rw [and255]; omega
    · rw [and255]; omega
    · rw [wrap_small (by omega)]; omega
    · rw [wrap_small (by omega)]; omega
  · rw [if_neg c]
    refine ⟨_, _, _, rfl, ?_, ?_, h0, h1⟩
    · rw [and255]; omega
    · rw [and255]; omega
theorem below_ok (b : List Int) (hb : b.length ≤ 1048576) (i h n : Int) (h0 : 0 ≤ i) (h1 : i ≤ b.length) (hn : 1 ≤ n) (hn2 : n ≤ 256) : ∃ x i' h', spec_l01Below.f b i h n = some (x, i', h') ∧ 0 ≤ x ∧ x < n ∧ 0 ≤ i' ∧ i' ≤ b.length := by
  obtain ⟨x, i', h', e, a1, a2, a3, a4⟩ := byte_ok b hb i h h0 h1
  unfold spec_l01Below.f
  rw [if_neg (by omega), if_pos hn2, e]
  simp only [Option.bind_some]
  rw [if_neg (by omega)]
  refine ⟨_, _, _, rfl, ?_, ?_, a3, a4⟩
  · rw [Int.tmod_eq_emod_of_nonneg a1]; exact Int.emod_nonneg _ (by omega)
  · rw [Int.tmod_eq_emod_of_nonneg a1]; exact Int.emod_lt_of_pos _ (by omega)

theorem new_ok (b : List Int) (hb : b.length ≤ 1048576) : ∀ (d k i : Nat) (h : Int), i + d = b.length → d < k → ∃ h', spec_l01New.l0 k b h (i : Int) = some (b, 0, h')
  | d, 0, i, h, _, hk => by omega
  | 0, k + 1, i, h, e, _ => by
    have c1 : ((i : Int) < (b.length : Int)) = False := eq_false (by omega)
    simp only [spec_l01New.l0, c1, if_false]
    exact ⟨_, rfl⟩
  | d + 1, k + 1, i, h, e, hk => by
    have c1 : ((i : Int) < (b.length : Int)) = True := eq_true (by omega)
    have c2 : ((0 : Int) ≤ (i : Int)) = True := eq_true (by omega)
    have c4 : wrap64 ((i : Int) + 1) = ((i + 1 : Nat) : Int) := wrap_small (n := (i : Int) + 1) (by omega)
    simp only [spec_l01New.l0, c1, c2, c4, if_true]
    split
    · exact new_ok b hb d k (i + 1) _ (by omega) (by omega)
    · exact ⟨_, rfl⟩
theorem cur_new (b : List Int) (hb : b.length ≤ 1048576) (k : Nat) (hk : b.length < k) : ∃ h', spec_l01New.f k b = some (b, 0, h') := by
  unfold spec_l01New.f
  exact new_ok b hb b.length k 0 _ (by omega) hk
theorem curnew_stop (b : List Int) (k : Nat) (hb : b.length ≤ 1048576) (hk : 1048576 < k) : ∃ h', spec_l01New.f k b = some (b, 0, h') := cur_new b hb k (by omega)

theorem pick_ok (b : List Int) (hb : b.length ≤ 1048576) (i h : Int) (h0 : 0 ≤ i) (h1 : i ≤ b.length) (l : List Int) (hn : 1 ≤ l.length) (hn2 : l.length ≤ 256) : ∃ x i' h', spec_l01PickInt.f b i h l = some (x, i', h') ∧ x ∈ l ∧ 0 ≤ i' ∧ i' ≤ b.length := by
  obtain ⟨x, i', h', e, a1, a2, a3, a4⟩ := below_ok b hb i h (l.length : Int) h0 h1 (by omega) (by omega)
  unfold spec_l01PickInt.f
  rw [e]
  simp only [Option.bind_some]
  rw [if_pos a1, if_pos a2]
  refine ⟨_, _, _, rfl, ?_, a3, a4⟩
  have hx : x.toNat < l.length := by omega
  unfold rd
  rw [List.getD_eq_getElem?_getD, List.getElem?_eq_getElem hx]
  exact List.getElem_mem hx

theorem at_ok (b : List Int) (hb : b.length ≤ 1048576) (hw : ∀ x ∈ b, (Lit.int .u8 x).wf = true) (i : Int) (h0 : 0 ≤ i) (h1 : i ≤ 1000) : ∃ x, laws_at.f b i = some x ∧ 0 ≤ x ∧ x ≤ 255 := by
  unfold laws_at.f
  by_cases c : (b.length : Int) = 0
  · rw [if_pos c]; exact ⟨0, rfl, by omega, by omega⟩
  · rw [if_neg c, wrap_small (n := i * 5) (by omega), wrap_small (n := i * 5 + 1) (by omega)]
    have e : Int.tmod (i * 5 + 1) (b.length : Int) = (i * 5 + 1) % (b.length : Int) := Int.tmod_eq_emod_of_nonneg (by omega)
    rw [e]
    have e0 := Int.emod_nonneg (i * 5 + 1) c
    have e1 := Int.emod_lt_of_pos (i * 5 + 1) (show (0 : Int) < (b.length : Int) by omega)
    rw [if_pos e0, if_pos e1]
    have hx : ((i * 5 + 1) % (b.length : Int)).toNat < b.length := by omega
    have hm : rd b ((i * 5 + 1) % (b.length : Int)) ∈ b := by
      unfold rd
      rw [List.getD_eq_getElem?_getD, List.getElem?_eq_getElem hx]
      exact List.getElem_mem hx
    have hwf := hw _ hm
    have hb2 : 0 ≤ rd b ((i * 5 + 1) % (b.length : Int)) ∧ rd b ((i * 5 + 1) % (b.length : Int)) ≤ 255 := by
      simp only [Lit.wf, Bool.and_eq_true, decide_eq_true_eq] at hwf
      exact hwf
    rw [wrap_small (by omega)]
    exact ⟨_, rfl, hb2.1, hb2.2⟩

def nf (a day : Int) : Nat := if day % 360 < a then 0 else 1
def cn (a : Int) : Nat → Int → Nat
  | 0, _ => 0
  | n + 1, day => nf a day + cn a n (day + 1)
theorem nf_le (a day : Int) : nf a day ≤ 1 := by unfold nf; split <;> omega
theorem cn_add (a : Int) : ∀ (p q : Nat) (day : Int), cn a (p + q) day = cn a p day + cn a q (day + p)
  | 0, q, day => by simp [cn]
  | p + 1, q, day => by
    rw [show p + 1 + q = (p + q) + 1 by omega, cn, cn, cn_add a p q (day + 1), show day + 1 + (p : Int) = day + ((p + 1 : Nat) : Int) by omega]
    omega
theorem cn_le (a : Int) : ∀ (n : Nat) (day : Int), cn a n day ≤ n
  | 0, _ => Nat.le_refl _
  | n + 1, day => by have h1 := nf_le a day; have h2 := cn_le a n (day + 1); rw [cn]; omega
theorem cn_last (a : Int) (m : Nat) (day : Int) : cn a (m + 1) day = cn a m day + nf a (day + m) := by
  rw [cn_add a m 1 day]; simp [cn]
theorem cn_zero : ∀ (n : Nat) (day : Int), 0 ≤ day → cn 0 n day = n
  | 0, _, _ => rfl
  | n + 1, day, h => by
    rw [cn, cn_zero n (day + 1) (by omega), nf, if_neg (by omega)]; omega
theorem sd_some (a : Int) : ∀ (n : Nat) (day need : Int), 0 ≤ need → need ≤ cn a n day →
    ∃ m : Nat, m ≤ n ∧ impl_SetDay.sd a (n + 1) day need = day + m ∧ (cn a m day : Int) = need ∧ (m = 0 ∨ nf a (day + m - 1) = 1)
  | n, day, need, h0, h1 => by
    by_cases hz : need = 0
    · exact ⟨0, by omega, by rw [impl_SetDay.sd_0 a n day need hz]; simp, by simp [cn, hz], .inl rfl⟩
    · cases n with
      | zero => simp [cn] at h1; omega
      | succ n =>
        rw [cn] at h1
        by_cases hf : day % 360 < a
        · have e : nf a day = 0 := if_pos hf
          obtain ⟨m, g1, g2, g3, g4⟩ := sd_some a n (day + 1) need h0 (by omega)
          refine ⟨m + 1, by omega, ?_, ?_, .inr ?_⟩
          · rw [impl_SetDay.sd_1 a (n + 1) day need hz hf, g2]; omega
          · rw [cn, e]; omega
          · rcases g4 with g4 | g4
            · subst g4; simp [cn] at g3; omega
            · rw [show day + ((m + 1 : Nat) : Int) - 1 = day + 1 + (m : Int) - 1 by omega]; exact g4
        · have e : nf a day = 1 := if_neg hf
          obtain ⟨m, g1, g2, g3, g4⟩ := sd_some a n (day + 1) (need - 1) (by omega) (by omega)
          refine ⟨m + 1, by omega, ?_, ?_, .inr ?_⟩
          · rw [impl_SetDay.sd_2 a (n + 1) day need hz hf, g2]; omega
          · rw [cn, e]; omega
          · rcases g4 with g4 | g4
            · subst g4; rw [show day + ((0 + 1 : Nat) : Int) - 1 = day by omega]; exact e
            · rw [show day + ((m + 1 : Nat) : Int) - 1 = day + 1 + (m : Int) - 1 by omega]; exact g4
/-- Enough days without frost lie between day 1000 and day 2000, in each of the drawn winters. -/
theorem enough (a : Int) (ha : a ∈ [(0 : Int), 60, 90, 120]) : 200 ≤ cn a 1000 1000 := by
  rcases List.mem_cons.1 ha with rfl | ha
  · decide +kernel
  rcases List.mem_cons.1 ha with rfl | ha
  · decide +kernel
  rcases List.mem_cons.1 ha with rfl | ha
  · decide +kernel
  rcases List.mem_cons.1 ha with rfl | ha
  · decide +kernel
  · cases ha
theorem setday_at (a day need : Int) (ha : a ∈ [(0 : Int), 60, 90, 120]) (h0 : 0 ≤ day) (h1 : day ≤ 1000) (h2 : 0 ≤ need) (h3 : need ≤ 200) :
    ∃ m : Nat, (day + m ≤ 2000) ∧ impl_SetDay.f day need a = some (day + m) ∧ (cn a m day : Int) = need ∧ (m = 0 ∨ nf a (day + m - 1) = 1) := by
  have ha2 : 0 ≤ a ∧ a ≤ 300 := by simp at ha; omega
  have e := enough a ha
  obtain ⟨n, hn⟩ : ∃ n : Nat, day + n = 2000 := ⟨(2000 - day).toNat, by omega⟩
  have e2 : cn a n day = cn a (1000 - day.toNat) day + cn a 1000 1000 := by
    rw [show n = (1000 - day.toNat) + 1000 by omega, cn_add, show day + ((1000 - day.toNat : Nat) : Int) = 1000 by omega]
  obtain ⟨m, g1, g2, g3, g4⟩ := sd_some a n day need h2 (by omega)
  refine ⟨m, by omega, ?_, g3, g4⟩
  unfold impl_SetDay.f
  rw [if_pos ⟨⟨h0, h1⟩, ⟨h2, h3⟩, ha2⟩, show (2001 - day).toNat = n + 1 by omega, g2]
theorem later_le (a day need : Int) (m m2 x : Nat) (h1 : (cn a m day : Int) = need) (h2 : m = 0 ∨ nf a (day + m - 1) = 1) (h3 : (cn a m2 (day + x) : Int) = need) : m ≤ x + m2 := by
  rcases Nat.lt_or_ge (x + m2) m with hlt | hge
  · exfalso
    obtain ⟨q, hq⟩ : ∃ q, m = (x + m2) + q + 1 := ⟨m - (x + m2) - 1, by omega⟩
    have e1 := cn_add a x m2 day
    have e2 := cn_last a (x + m2 + q) day
    have e3 := cn_add a (x + m2) q day
    have e4 : nf a (day + ((x + m2 + q : Nat) : Int)) = 1 := by
      rcases h2 with h2 | h2
      · omega
      · rw [← h2, hq]; congr 1; omega
    rw [hq] at h1
    omega
  · exact hge
theorem seton_two (x y : S25) (a b rx ry : Int) (k : Nat) (hx : impl_SetDay.f x.f0 x.f1 a = some rx) (hy : impl_SetDay.f y.f0 y.f1 a = some ry) (h0 : 0 ≤ rx) (h1 : 0 ≤ ry) :
    impl_SetOn.f (k + 3) [x, y] a b = some ((if rx ≤ b then [0] else []) ++ (if ry ≤ b then [1] else [])) := by
  have e0 : rd_T25 [x, y] 0 = x := rfl
  have e1 : rd_T25 [x, y] 1 = y := rfl
  have w0 : wrap64 (0 + 1) = 1 := wrap_small (n := 0 + 1) (by omega)
  have w1 : wrap64 (1 + 1) = 2 := wrap_small (n := 1 + 1) (by omega)
  have l2 : ([x, y].length : Int) = 2 := rfl
  have c1 : (rx ≥ 0) = True := eq_true h0
  have c2 : (ry ≥ 0) = True := eq_true h1
  unfold impl_SetOn.f
  simp only [impl_SetOn.l0, l2, e0, e1, w0, w1, hx, hy, Option.bind_some, c1, c2, if_true]
  by_cases d1 : rx ≤ b <;> by_cases d2 : ry ≤ b <;> simp [d1, d2]
theorem allset_two (x y : S25) (a rx ry : Int) (k : Nat) (hx : impl_SetDay.f x.f0 x.f1 a = some rx) (hy : impl_SetDay.f y.f0 y.f1 a = some ry) (h0 : 0 ≤ rx) (h1 : 0 ≤ ry) :
    impl_AllSet.f (k + 3) [x, y] a = some (mx (mx 0 rx) ry) := by
  have e0 : rd_T25 [x, y] 0 = x := rfl
  have e1 : rd_T25 [x, y] 1 = y := rfl
  have w0 : wrap64 (0 + 1) = 1 := wrap_small (n := 0 + 1) (by omega)
  have w1 : wrap64 (1 + 1) = 2 := wrap_small (n := 1 + 1) (by omega)
  have l2 : ([x, y].length : Int) = 2 := rfl
  have c1 : (rx < 0) = False := eq_false (by omega)
  have c2 : (ry < 0) = False := eq_false (by omega)
  unfold impl_AllSet.f
  simp only [impl_AllSet.l0, l2, e0, e1, w0, w1, hx, hy, Option.bind_some, c1, c2, if_false]
  simp
theorem has_two (k : Nat) (p q : Bool) : laws_has.f (k + 3) ((if p = true then [(0 : Int)] else []) ++ (if q = true then [1] else [])) 0 = some p := by
  cases p <;> cases q <;> simp [laws_has.f, laws_has.l0, rd, wrap64]
theorem frost_nf (day a : Int) (h0 : 0 ≤ day) (h1 : day ≤ 2000) (ha : 0 ≤ a ∧ a ≤ 300) : impl_IsFrost.f day a = some (decide (nf a day = 0)) := by
  unfold impl_IsFrost.f nf
  rw [decide_eq_true h0, decide_eq_true h1, decide_eq_true ha.1, decide_eq_true (show a ≤ 360 by omega)]
  by_cases h : day % 360 < a
  · simp [h]
  · simp [h]
theorem FnMortar : laws_FnMortar.Pure := by
  intro l hl hl2 hw
  by_cases hb : (l.length : Int) > 1048576
  · exact ⟨0, by simp [laws_FnMortar.f, laws_big.f, hb]⟩
  have hb' : l.length ≤ 1048576 := by omega
  obtain ⟨h0, e0⟩ := cur_new l hb' (l.length + 6000) (by omega)
  obtain ⟨D, i1, h1, e1, m1, a1, b1⟩ := pick_ok l hb' 0 h0 (by omega) (by omega) [0, 10, 80, 300, 355, 700, 1000] (by simp) (by simp)
  obtain ⟨N, i2, h2, e2, m2, a2, b2⟩ := pick_ok l hb' i1 h1 a1 b1 [0, 1, 14, 28, 120, 200] (by simp) (by simp)
  obtain ⟨a, i3, h3, e3, m3, _, _⟩ := pick_ok l hb' i2 h2 a2 b2 [0, 60, 90, 120] (by simp) (by simp)
  have hD : 0 ≤ D ∧ D ≤ 1000 := by simp at m1; omega
  have hN : 0 ≤ N ∧ N ≤ 200 := by simp at m2; omega
  have ha : 0 ≤ a ∧ a ≤ 300 := by simp at m3; omega
  obtain ⟨m, s1, s2, s3, s4⟩ := setday_at a D N m3 hD.1 hD.2 hN.1 hN.2
  obtain ⟨t, t1, t2, t3⟩ := at_ok l hb' hw 0 (by omega) (by omega)
  obtain ⟨x, hx⟩ : ∃ x : Nat, mn 1000 (wrap64 (D + Int.tmod t 30)) = D + x := by
    have e : Int.tmod t 30 = t % 30 := Int.tmod_eq_emod_of_nonneg t2
    rw [e, wrap_small (by omega)]
    unfold mn
    split
    · exact ⟨(t % 30).toNat, by omega⟩
    · exact ⟨(1000 - D).toNat, by omega⟩
  have hx2 : D + x ≤ 1000 := by rw [← hx]; unfold mn; split <;> omega
  obtain ⟨mm, r1, r2, r3, _⟩ := setday_at a (D + x) N m3 (by omega) hx2 hN.1 hN.2
  have hle := later_le a D N m mm x s3 s4 r3
  have hm := cn_le a m D
  obtain ⟨q, q1, q2, _, _⟩ := setday_at a 5 3 m3 (by omega) (by omega) (by omega) (by omega)
  obtain ⟨z, z1, z2, z3, _⟩ := setday_at 0 D N (by simp) hD.1 hD.2 hN.1 hN.2
  rw [cn_zero z D hD.1] at z3
  have draw : spec_DrawBed.f (l.length + 6000) l = some (D, N, a) := by
    simp only [spec_DrawBed.f, e0, Option.bind_some, spec_l32Bed.f, e1, e2, e3]
  have bed : impl_BedOk.f D N = some true := by
    simp only [impl_BedOk.f, win, Option.bind_some]
    simp [hD, hN]
  have all := fun k => allset_two ⟨D, N⟩ ⟨5, 3⟩ a (D + m) (5 + q) k s2 q2 (by omega) (by omega)
  have son := fun b k => seton_two ⟨D, N⟩ ⟨5, 3⟩ a b (D + m) (5 + q) k s2 q2 (by omega) (by omega)
  refine ⟨l.length + 6000, ?_⟩
  have c1 : (D + (m : Int) < wrap64 (D + N)) = False := eq_false (by rw [wrap_small (by omega)]; omega)
  have c2 : (D + (x : Int) + (mm : Int) < D + (m : Int)) = False := eq_false (by omega)
  simp only [laws_FnMortar.f, laws_big.f, hb, draw, Option.bind_some, s2, t1, hx, r2, c1, c2, if_false, bed, decide_false, Bool.false_eq_true]
  rw [show l.length + 6000 = (l.length + 5999) + 1 by omega, laws_FnMortar.j0]
  simp only [Bool.not_true, Bool.false_eq_true, if_false]
  have loop : ∀ (p j k : Nat), j + p = m → p + 10 < k → laws_FnMortar.l0 k a (D + m) (cn a j D) (D + j) D N = some true := by
    intro p
    induction p with
    | succ p ih =>
      intro j k hj hk
      obtain ⟨k, rfl⟩ : ∃ y, k = y + 1 := ⟨k - 1, by omega⟩
      have c3 : (D + (j : Int) < D + (m : Int)) = True := eq_true (by omega)
      have hcj := cn_le a j D
      have hl1 := cn_last a j D
      have hnf := nf_le a (D + j)
      simp only [laws_FnMortar.l0, c3, if_true, frost_nf (D + j) a (by omega) (by omega) ha, Option.bind_some, laws_btoi.f]
      have key := ih (j + 1) k (by omega) (by omega)
      by_cases hz : nf a (D + j) = 0
      · simp only [hz, decide_true, Bool.not_true, Bool.false_eq_true, if_false, Option.bind_some]
        rw [wrap_small (n := (cn a j D : Int) + 0) (by omega), wrap_small (n := D + (j : Int) + 1) (by omega)]
        rw [hl1, hz] at key
        rw [show D + (j : Int) + 1 = D + ((j + 1 : Nat) : Int) by omega, show (cn a j D : Int) + 0 = ((cn a j D + 0 : Nat) : Int) by omega]
        exact key
      · have hz1 : nf a (D + j) = 1 := by omega
        simp only [hz, decide_false, Bool.not_false, if_true, Option.bind_some]
        rw [wrap_small (n := (cn a j D : Int) + 1) (by omega), wrap_small (n := D + (j : Int) + 1) (by omega)]
        rw [hl1, hz1] at key
        rw [show D + (j : Int) + 1 = D + ((j + 1 : Nat) : Int) by omega, show (cn a j D : Int) + 1 = ((cn a j D + 1 : Nat) : Int) by omega]
        exact key
    | zero =>
      intro j k hj hk
      obtain ⟨k, rfl⟩ : ∃ y, k = y + 1 + 3 := ⟨k - 4, by omega⟩
      obtain rfl : j = m := by omega
      have c3 : (D + (j : Int) < D + (j : Int)) = False := eq_false (by omega)
      have c5 : ((cn a j D : Int) = N) = True := eq_true s3
      have c6 : wrap64 (D + N) = D + N := wrap_small (by omega)
      have c7 : (D + (z : Int) = D + N) = True := eq_true (by omega)
      have c8 : mx (mx 0 (D + j)) (5 + q) ≥ D + j ∧ mx (mx 0 (D + j)) (5 + q) ≥ 5 + q := by unfold mx; (repeat' split) <;> omega
      have c9 : (mx (mx 0 (D + j)) (5 + q) ≥ D + (j : Int)) = True := eq_true c8.1
      have c10 : wrap64 (D + (j : Int) - 1) = D + j - 1 := wrap_small (by omega)
      have d1 : (D + (j : Int) ≤ D + j) = True := eq_true (Int.le_refl _)
      have d2 : (D + (j : Int) ≤ D + j - 1) = False := eq_false (by omega)
      have d3 : (D + (j : Int) ≤ mx (mx 0 (D + j)) (5 + q)) = True := eq_true c8.1
      have d4 : (5 + (q : Int) ≤ mx (mx 0 (D + j)) (5 + q)) = True := eq_true c8.2
      have hs1 := has_two k true (decide (5 + (q : Int) ≤ D + j))
      have hs2 := has_two k false (decide (5 + (q : Int) ≤ D + j - 1))
      simp only [if_true, Bool.false_eq_true, if_false, decide_eq_true_eq] at hs1 hs2
      rw [show k + 1 + 3 = (k + 3) + 1 by omega]
      simp only [laws_FnMortar.l0, c3, if_false, Option.bind_some, all k, c5, if_true, z2, c6, c7, c9, c10]
      rw [son (D + j) k, son (D + j - 1) k, son (mx (mx 0 (D + j)) (5 + q)) k]
      simp only [Option.bind_some, d1, d2, d3, d4, if_true, if_false]
      have ln : ((([0] ++ [1] : List Int).length : Int) == 2) = true := rfl
      simp only [hs1, hs2, Option.bind_some, if_true, Bool.false_eq_true, if_false, ln]
      by_cases hj0 : D + (j : Int) = D
      · rw [if_pos hj0]
      · rw [if_neg hj0, frost_nf _ a (by omega) (by omega) ha]
        have hnf : nf a (D + j - 1) = 1 := by
          rcases s4 with s4 | s4
          · omega
          · exact s4
        simp [hnf]
  have := loop m 0 (l.length + 5999) (by omega) (by omega)
  simpa [cn] using this
end Go.Proofs.Ytaahibjpncpdoaa.Pure
