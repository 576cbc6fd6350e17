/- The law FnExactSameArch of the given program is proved: for every input of its types that can be read, the call returns true and leaves its arguments as they were. No further condition. -/
import Derived.Test.YtgepdbkhcdoedaaRows
import Derived.Test.YtgepdbkhcdoedaaPFnExactSameArchx4
import Derived.Test.YtgepdbkhcdoedaaPureFnExactSameArch
import Derived.Test.YtgepdbkhcdoedaaOpen
import Derived.WalkKit
import Derived.ProofKit
import Derived.OpenShut
import Derived.ShutString
import Derived.ChangeOld
import Derived.Below
import Derived.SizedLaws
import Derived.Test.YtgepdbkhcdoedaaWSized
namespace Go.Proofs.Ytgepdbkhcdoedaa.PFnExactSameArch
open Go.RowKit Go.ChangeShapes Go.WideShapes Go.Proofs.YtgepdbkhcdoedaaW.PrintWords Go.Proofs.YtgepdbkhcdoedaaW.Opens
set_option linter.unusedVariables false
set_option maxRecDepth 1000000 in
theorem opens126 : Opens Try.prog 126 k126 g126 := Opens.iso (Opens.struct (OpensF.cons (Opens.int Try.underlying3) rfl (by kernel_rfl) (OpensF.one (Opens.int Try.underlying3) rfl (by kernel_rfl))) Try.underlying126 (by kernel_rfl)) (fun x : S126 => (x.f0, x.f1)) (fun a => ⟨a.1, a.2⟩) (fun _ => rfl)
set_option maxRecDepth 1000000 in
theorem opens128 : Opens Try.prog 128 k128 g128 := Opens.iso (Opens.struct (OpensF.cons opens126 rfl (by kernel_rfl) (OpensF.one opens126 rfl (by kernel_rfl))) Try.underlying128 (by kernel_rfl)) (fun x : S128 => (x.f0, x.f1)) (fun a => ⟨a.1, a.2⟩) (fun _ => rfl)
set_option maxRecDepth 1000000 in
theorem opens58 : Opens Try.prog 58 k58 g58 := Opens.iso (Opens.struct (OpensF.one (Opens.slice (e' := 128) opens128 Try.underlying56 (by kernel_rfl)) rfl (by kernel_rfl)) Try.underlying58 (by kernel_rfl)) (fun x : S58 => x.f0) (fun a => ⟨a⟩) (fun _ => rfl)
end Go.Proofs.Ytgepdbkhcdoedaa.PFnExactSameArch
namespace Go.Proofs.Ytgepdbkhcdoedaa.fnExactSameArch
open Go.ChangeShapes Go.WideShapes Go.ChangeAt Go.RowKit Go.Proofs.Ytgepdbkhcdoedaa.PFnExactSameArch Go.Proofs.YtgepdbkhcdoedaaW.Opens
open Go.Proofs.YtgepdbkhcdoedaaW
open Go.Proofs.YtgepdbkhcdoedaaW.PrintWords (Kd Kd.C)
open Go.ChangeMaps (open_string shut_string)
set_option linter.unusedVariables false
theorem own : ownKnob Try.prog.godebug = none := by kernel_rfl
set_option maxRecDepth 1000000 in
theorem laidOut : laidOutB Try.prog = true := by kernel_rfl
set_option maxRecDepth 1000000 in
theorem lifted (os : Os) (started : os.Started) (H : Type) (enc : TypeId × Value → H) :
    ReturnsInHanded {} Try.checked os 7 .any (Rows.fnExactSameArchSpec.pre6 enc Try.prog Try.f7 Rows.fnExactSameArchRow.domain false) (Rows.fnExactSameArchSpec.post enc Try.prog Try.f7 false true false false) := by
  refine returnsInHanded_of_change_sized (C := Try.checked) own started (by kernel_rfl) Try.func7
    (ChangeSpec.witness6 (enc := enc) (C := Try.checked) false ⟨#[], #[.agg #[.slice none 0 0], .agg #[.slice none 0 0]], []⟩ 8 (by kernel_rfl) (by kernel_rfl) (by kernel_rfl) (by kernel_rfl)) ?_
  intro W base args ds gs before hval0 hW hcnd hsz0 _
  have hsz : (DataW.weightsEach Try.prog (Try.f7.params.toList ++ Rows.fnExactSameArchSpec.plain.varTypes Try.prog) (ds ++ gs)).all (· ≤ reachBytes) = true := hsz0
  have hval : ∀ (j : Nat) t v, Try.f7.params[j]? = some t → args[j]? = some v → Value.okWide Try.prog W .any base t v := hval0
  have hW' := hW
  obtain ⟨p, q, hA0, hV, rfl, hfz, hnd⟩ := hW
  have hA : DataW.TrodAll enc Try.prog W 0 (fun _ => true) true Try.f7.params.toList args.toList ds p := hA0
  rw [Try.params7] at hA hval hsz
  obtain ⟨v0, vs0, d0, ds0, p0, q0, hargs, rfl, rfl, h0, r0⟩ := trodAll_cons hA
  obtain ⟨v1, vs1, d1, ds1, p1, q1, rfl, rfl, rfl, h1, r1⟩ := trodAll_cons r0
  obtain ⟨rfl, rfl, rfl⟩ := trodAll_nil r1
  obtain rfl : args = #[v0, v1] := by cases args; simp_all
  obtain ⟨rfl, rfl⟩ := trodVars_none hV
  obtain ⟨cs0, rfl, hs0⟩ := okWide_struct Try.underlying58 (hval 0 58 v0 rfl rfl)
  have k0 := h0
  have lt0 : ∀ x ∈ p0, x.block < W.heap.size := by obtain ⟨m, hm⟩ := k0; exact DataW.trod_lt m _ _ _ hm
  obtain ⟨fuel0, hf0⟩ := h0
  obtain ⟨x0, hx0, hg0⟩ := opens58 _ _ _ _ _ _ _ _ _ hf0
  obtain ⟨A0_0, c0_0, hcs0, hc0_0, hr0_0⟩ := k58_open hx0
  obtain rfl : cs0 = #[.slice A0_0 x0.f0.length c0_0] := by apply Array.ext'; simpa [Value.cells] using hcs0
  obtain ⟨cs1, rfl, hs1⟩ := okWide_struct Try.underlying58 (hval 1 58 v1 rfl rfl)
  have k1 := h1
  have lt1 : ∀ x ∈ p1, x.block < W.heap.size := by obtain ⟨m, hm⟩ := k1; exact DataW.trod_lt m _ _ _ hm
  obtain ⟨fuel1, hf1⟩ := h1
  obtain ⟨x1, hx1, hg1⟩ := opens58 _ _ _ _ _ _ _ _ _ hf1
  obtain ⟨A1_0, c1_0, hcs1, hc1_0, hr1_0⟩ := k58_open hx1
  obtain rfl : cs1 = #[.slice A1_0 x1.f0.length c1_0] := by apply Array.ext'; simpa [Value.cells] using hcs1
  clear hA0 hval0 hsz0 hsz
  obtain ⟨k, hk⟩ := (Pure.FnExactSameArch x0.f0 x1.f0 hg0 hg1)
  refine (laws_FnExactSameArch.calls k _ _ x0.f0 _ _ x1.f0 true W hr0_0 hc0_0 hr1_0 hc1_0 hk).mono fun e W' ⟨he, bel0⟩ => ?_
  have bel : Below W.heap.size W W' := bel0
  subst he
  exact ⟨_, rfl, _, _, _, [], _, [], hW', trodAll_mk1 (shut_bool Try.underlying4 _), (trodAll_cons_mk (Below.trod laidOut (by kernel_rfl) (of_decide_eq_true (by kernel_rfl)) k0 bel lt0) (trodAll_cons_mk (Below.trod laidOut (by kernel_rfl) (of_decide_eq_true (by kernel_rfl)) k1 bel lt1) trodAll_mk0)), rfl, bel.frame _, fun h => by cases h⟩
set_option maxRecDepth 1000000 in
theorem over : Rows.fnExactSameArchRow.holds Try.pinned (OpenSpec.ofChange Rows.fnExactSameArchSpec) :=
  OpenClaim.holds_of_wide 7 Try.f7 rfl rfl rfl rfl rfl rfl rfl ⟨rfl, rfl, rfl, rfl, rfl⟩ rfl rfl rfl rfl rfl (by kernel_rfl) Try.func7 (by kernel_rfl)
    (of_decide_eq_true (by kernel_rfl)) (by unfold Func.isWrapper; first | (rw [if_pos (by decide +kernel)]; kernel_rfl) | (rw [if_neg (by decide +kernel)]; exact ⟨rfl, rfl⟩))
    (fun os started H enc _ => lifted os started H enc)
theorem proved : Rows.FnExactSameArchSaid := over
#print axioms proved
end Go.Proofs.Ytgepdbkhcdoedaa.fnExactSameArch
namespace Go.Proofs.Ytgepdbkhcdoedaa
/-- The row, under a short name, for the claim. -/
theorem fnExactSameArch_holds : Rows.FnExactSameArchSaid := fnExactSameArch.proved
end Go.Proofs.Ytgepdbkhcdoedaa
